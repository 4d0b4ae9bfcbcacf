/- Manifest: the records of a log, each of one piece. -/
import Derived.Test.YtpfibkgmfapnjaaGreatDoorS33
import Derived.Test.YtpfibkgmfapnjaaGreatDoorS39
import Derived.Test.YtpfibkgmfapnjaaGreatDoorS35
set_option linter.unusedSimpArgs false
set_option linter.unusedVariables false
namespace Go.Proofs.YtpfibkgmfapnjaaGreatDoor
section
open Go.RowKit
variable {w w':World} {v:Value} {rs:List ByteArray}
theorem joined_any {x:Value} (h:RdT w x (rs.map (fun r=>wB++r))) (hl:rs.length≤1000000) (hz:∀ r∈rs,r.size≤1000000):Calls Tryz.prog 237 #[x] w fun r w'=>∃ a c,r= .returned (.slice a rs.length c)∧bE eStr w' w.heap.size (.slice a rs.length c) rs∧Below w.heap.size w w':=by
 obtain⟨a0,c0,rfl,h0⟩:=h
 rw[List.length_map]
 obtain⟨n,hn⟩:∃ n,rs.length=n:=⟨_,rfl⟩
 rw[hn]
 have H:=aB (aA h0 (aA hn hz))
 rw[hn]at hl
 clear h0 hn hz
 go_enter Tryz.func237,Tryz.ntmps237
 go_wp2
 go_loopw [3,4,5,10] (fun o _ _ y wr=>∃ (i:Nat) (a:Option Addr) (c:Nat),i≤n∧o= .slice a i c∧y= .int .i64 (i:Int)∧bE eStr wr w.heap.size (.slice a i c) (rs.take i)∧Below w.heap.size w wr) (fun _ _ _ y _=>n - (intOf y).toNat)
 case atStart=>exact⟨0,none,0,by omega,rfl,rfl,World.ownsRow_nil _ _ _ _,Below.refl _ _⟩
 case round=>
  obtain⟨i,a,c,hi,rfl,rfl,ho,hb⟩:=hrel
  by_cases hlt:i<n
  · have hil:i<rs.length:=by rw[H.out.2.1];exact hlt
    obtain⟨b,off,rfl,hbl,hc⟩:=H.out.1.resolve_left (fun e=>by have:=congrArg List.length e;rw[List.length_map]at this;simp at this;rw[this]at hil;simp at hil)
    have c1:=hc i (by rw[List.length_map];exact hil)
    rw[List.getElem_map]at c1
    obtain⟨r,hr⟩:∃ r,rs[i]=r:=⟨_,rfl⟩
    have hrz:=H.out.2.2 r (by rw[← hr];exact List.getElem_mem hil)
    rw[hr]at c1
    obtain⟨s,hs⟩:∃ s,wB++r=s:=⟨_,rfl⟩
    have hsz:s.size=1+r.size:=by rw[← hs,ByteArray.size_append];rfl
    have hsx:s.extract 1 (1+r.size)=r:=by
     rw[← hsz,←hs]
     have:=arr_rear [87] r.data.toList
     rw[← str_add,arr_back]at this
     exact this
    have z2:0<s.size:=by omega
    have hs0:s[0]'z2=87:=by subst hs;rfl
    rw[hs]at c1
    have c2:=(hb.cell (p:=⟨b,off+i,none⟩) hbl).trans c1
    have t1:s.toList.isEmpty=false:=emp_no (by omega)
    have z0:(i:Int)<(n:Int):=by omega
    have z1:(0:Int)≤(i:Int):=by omega
    have z3:1≤s.size:=by omega
    have htk:rs.take (i+1)=rs.take i++[r]:=by rw[List.take_succ_eq_append_getElem hil,hr]
    have htl:(rs.take i).length=i:=by rw[List.length_take];omega
    have HH:=aB (aA ho (aA hb (aA htk htl)))
    have hwz:w.heap.size≤wr.heap.size:=hb.size
    clear hc c1 hr hs htk htl ho hb hrz hbl
    go_wp2_with (at_builtin;refine fK eStr rfl _ _ rfl rfl rfl (l:=rs.take i) (l2:=[r]) (B:=w.heap.size) (aD HH.out.1 ((Below.refl _ _).alloc (Nat.le_refl _) _)) (eW (e:=eStr) wr r _ _ rfl _) (by rw[HH.out.2.2.2];simp;omega) (by simp;omega) ?_;rw[HH.out.2.2.2];intro a' cp' w13 ho13 hb13 hg13 hd13;have H13:=aB (aA ho13 hb13);clear ho13 hb13 hg13 hd13)
    go_roundw
    case rel=>exact⟨i+1,a',cp',by omega,rfl,by go_num,by rw[HH.out.2.2.1];exact H13.out.1,HH.out.2.1.trans (((Below.refl w.heap.size wr).alloc hwz _).trans H13.out.2)⟩
    case measure=>simp[intOf];omega
  · obtain rfl:i=n:=by omega
    have hfull:rs.take i=rs:=by rw[← H.out.2.1];exact List.take_length
    rw[hfull]at ho
    have HH:=aB (aA ho hb)
    have z0:¬ (i:Int)<(i:Int):=by omega
    clear ho hb hfull
    go_wp2
    go_ret
    exact⟨a,c,rfl,HH.out.1,HH.out.2⟩
end
section
open Go.RowKit
variable {w w' w0:World} {F F' G G' H:Nat→Prop} {B db mb lb mp mm k n:Nat} {D D':Dk} {L L':Lg} {S:List (Nat×Fl)} {dir dr bb:ByteArray} {s s0 t:PS} {e:PE} {seq q0 p:Int} {stuck:Bool} {v:Value} {R:List (Int×PE)}
def LoadsR:PS→Int→List (Int×PE)→PS→Int→Prop
 |s,q,[],t,p=>s=t∧q=p
 |s,q,x::R,t,p=>(x.1≤q∧LoadsR s q R t p)∨(x.1=q+1∧∃ s1,aO s x.2=(0,s1)∧LoadsR s1 (q+1) R t p)
structure RecOk (x:Int×PE):Prop where
 ok:LaidOk x.2
 q:0≤x.1∧x.1≤1000000
 len:(recL x.1 x.2).length≤1000000
def BaseS (b:ByteArray) (s:PS) (q:Int):Prop:=(b=⟨#[]⟩∧s=s01∧q=0)∨(cR s∧1≤s.next∧0≤q∧q≤1000000∧b=cT s q)
def recW (x:Int×PE):ByteArray:=⟨(recL x.1 x.2).toArray⟩
set_option maxRecDepth 100000 in
set_option maxHeartbeats 16000000 in
theorem mload_any (h:MS B w0 w F G db mb lb mp mm D L dir s00 0 false) {b:ByteArray} (hb:BaseS b s0 q0) (hrec:L.records 0=R.map (fun x=>eJ x.1 x.2)) (hfl:(L.m.flatMap (·.2)).length≤1000000) (hRn:R.length≤100000) (hR:∀ x∈R,RecOk x) (hL:LoadsR s0 q0 R t p):
 Calls Tryz.prog 146 #[.pointer (some ⟨mm,0,none⟩),.string b] w fun r w'=>r= .returned (.tuple #[])∧MS B w0 w' F G db mb lb mp mm D L dir t p false∧Tn (fun q=>q=mm) w w':=by
 have h4:=h.set4 1
 obtain⟨fv,lv,nv,m3,m4,m5,m6,m7,_⟩:=h.st
 have g4:=h.fz 4
 have m2:=h.c2
 have hml:=h.lt
 have hltF:=h.ltF
 have hnF:=h.nf
 have hBw:=h.ws.d.hz
 obtain⟨n,hn⟩:∃ n,R.length=n:=⟨_,rfl⟩
 have hrec2:L.records 0=(R.map recW).map (fun r=>wB++r):=by rw[hrec,List.map_map];rfl
 have H4:=aB (aA h4 (aA hrec2 (aA hfl (aA hn (aA hR hL)))))
 have HF:=aB (aA hltF (aA hnF hBw))
 have HB0:=aB h
 rw[hn]at hRn
 clear h4 h m3 m5 m6 m7 hrec hrec2 hfl hn hR hL hltF hnF hBw
 have m4':w.cell? ⟨mm,4,none⟩=some (.int .i64 0):=m4
 clear m4
 have HB:Hid (cR s0∧0≤q0∧q0≤1000000):=by
  rcases hb with⟨_,rfl,rfl⟩|⟨h1,_,h2,h3,_⟩
  · exact⟨good01,by omega⟩
  · exact⟨h1,h2,h3⟩
 have HBS:=aB hb
 clear hb
 go_enter Tryz.func146,Tryz.ntmps146
 obtain⟨tb,t0⟩:∃ tb,b.toList.isEmpty=tb:=⟨_,rfl⟩
 go_upto_if 21 with fail
 go_cut [] (fun wx=>MS B w0 wx F G db mb lb mp mm D L dir s0 q0 false∧Tn (fun q=>q=mm) w wx)
 case first=>
  rcases HBS.out with⟨hb0,rfl,rfl⟩|⟨hgood,hnx,hq00,hq01,hbb⟩
  · obtain rfl:tb=true:=t0.symm.trans (jX (by rw[hb0];rfl))
    clear hb0
    go_wp2
    go_meet
    case rel=>exact⟨H4.out.1,tn_setS⟩
  · replace hbb:=hbb.symm
    have hlen:=snapL_len hgood q0
    have h4l:=lD (cM s0 q0)
    have hf1:=arr_front (sum4 (cM s0 q0)) (cM s0 q0)
    have hf2:=arr_rear (sum4 (cM s0 q0)) (cM s0 q0)
    have hbz:b.size≤700004:=by rw[← hbb];exact kM hgood q0
    have hbz4:4≤b.size:=by rw[← hbb];unfold cT;rw[bQ,List.length_append,h4l];omega
    rw[show(⟨(sum4 (cM s0 q0)++cM s0 q0).toArray⟩:ByteArray)=b from hbb,h4l]at hf1 hf2
    obtain⟨x,hx⟩:∃ x:ByteArray,(⟨(cM s0 q0).toArray⟩:ByteArray)=x:=⟨_,rfl⟩
    obtain⟨y,hy⟩:∃ y:ByteArray,(⟨(sum4 (cM s0 q0)).toArray⟩:ByteArray)=y:=⟨_,rfl⟩
    rw[hy]at hf1
    rw[hx]at hf2
    have hsum:∀ u,Calls Tryz.prog 55 #[.string x] u fun e w'=>e= .returned (.int .i64 (Rw.sumF (cM s0 q0):Int))∧u=w':=fun u=>by
     have:=sum_any x u (by rw[← hx,bQ];unfold maxLen;omega)
     rw[show x.data.toList=cM s0 q0 from by rw[← hx]]at this
     exact this
    have hput:∀ u,Calls Tryz.prog 54 #[.int .i64 (Rw.sumF (cM s0 q0):Int),.int .i64 4] u fun e w'=>e= .returned (.tuple #[.string y,.int .i64 0])∧Below u.heap.size u w':=fun u=>by
     have:=put_ok (Rw.sumF (cM s0 q0)) 4 u (by omega) (by omega) (Nat.lt_of_lt_of_le (Rw.sumF_lt _) (by decide))
     unfold sum4 at hy
     rw[hy]at this
     exact this
    obtain⟨sm,hsm⟩:∃ sm,Rw.sumF (cM s0 q0)=sm:=⟨_,rfl⟩
    rw[hsm]at hsum hput
    obtain rfl:tb=false:=t0.symm.trans (emp_no (by omega))
    have t2:(y.toList == y.toList)=true:=beq_self_eq_true _
    have i1:(4:Int)≤(b.size:Int):=by omega
    have i2:b.size≤9223372036854775807:=by omega
    have hok:=hgood.laid
    have HC:=aB (aA hsum (aA hput (aA hx (aA hlen hok))))
    have hn1:=hgood.next
    obtain⟨zz,hzz⟩:∃ z:ByteArray,(⟨([]:List UInt8).toArray⟩:ByteArray)=z:=⟨_,rfl⟩
    have t1:zz.toList.isEmpty=true:=jX (by rw[← hzz];rfl)
    have HZZ:=aB hzz
    have hm2:∀ w',Below (w.setCell ⟨mm,4,none⟩ (.int .i64 1)).heap.size (w.setCell ⟨mm,4,none⟩ (.int .i64 1)) w'→MS B w0 w' F G db mb lb mp mm D L dir {s00 with next:=1} 0 false:=fun w' hb=>H4.out.1.stay hb
    have HM2:=aB hm2
    clear hsum hput hx hlen hok hgood hzz hbb h4l hbz hsm hy hm2
    go_wp2_with (first
     |(go_at_call 236;refine(redit_any (e:=fB s0) (r:=[]) H7.out.1 HC.out.2.2.2.2).mono ?_;rintro r w8 ⟨ve,rfl,⟨xv,yv,mv,ov,rfl,o1,o2,o3,o4⟩,r8,t8⟩;obtain⟨xa,xc,rfl,_,_⟩:=aI o1;obtain⟨ya,yc,rfl,_,_⟩:=aI o2;obtain⟨ma,mc,rfl,_,_⟩:=aI o3;obtain⟨oa,oc,rfl,_,_⟩:=aI o4;obtain⟨xn,hxn⟩:∃ n,(fB s0).add.length=n:=⟨_,rfl⟩;obtain⟨yn,hyn⟩:∃ n,(fB s0).rem.length=n:=⟨_,rfl⟩;obtain⟨mn,hmn⟩:∃ n,(fB s0).fl.length=n:=⟨_,rfl⟩;obtain⟨on,hon⟩:∃ n,(fB s0).ns.length=n:=⟨_,rfl⟩;rw[hxn,hyn,hmn,hon];obtain⟨wf,hwf⟩:∃ wf,w8.alloc (.cells #[.slice xa xn xc,.slice ya yn yc,.int .i64 (fB s0).log,.slice ma mn mc,.slice oa on oc] 56)=wf:=⟨_,rfl⟩;have hbf:Below w8.heap.size w8 wf:=(by rw[← hwf];exact(Below.refl _ _).alloc (Nat.le_refl _) _);have heo:eH wf w8.heap.size (.slice xa xn xc) (.slice ya yn yc) (.int .i64 (fB s0).log) (.slice ma mn mc) (.slice oa on oc):=(by rw[← hwf];refine⟨?_,?_,?_,?_,?_,fun j=>?_⟩<;>simp[go_sem]);have hM9:=(H7.out.2.1.aside (HB0.out.wsm (H7.out.2.2.1.andThen t8 (fun q e=> .inr (by omega)))) t8 (show ¬ mm=w5.heap.size by omega) ⟨rfl,rfl,rfl⟩).stay hbf;have hltF:=HF.out.1;have hx9:StX (fun q=>F q∨q=mm) wf (.agg #[.slice xa xn xc,.int .i64 s0.next,.int .i64 s0.log,.slice ma mn mc,.slice oa on oc]) s0:=(by rw[← hxn,←hmn,←hon];exact kI.stx (B:=w7.heap.size) ⟨_,_,_,rfl,aD o1 hbf,aD o3 hbf,aD o4 hbf⟩ (fun q hq=>by have:=H7.out.2.2.2;exact hq.elim (fun hq=>by have:=hltF q hq;omega) (fun hq=>by omega)));have h10:=hM9.setS hx9;have t10:Tn (fun q=>q=mm) w (((((wf.setCell ⟨mm,3,none⟩ (.slice xa xn xc)).setCell ⟨mm,4,none⟩ (.int .i64 s0.next)).setCell ⟨mm,5,none⟩ (.int .i64 s0.log)).setCell ⟨mm,6,none⟩ (.slice ma mn mc)).setCell ⟨mm,7,none⟩ (.slice oa on oc)):=(((H7.out.2.2.1.andThen t8 (fun q e=> .inr (by omega))).trans (Tn.ofBelow hbf)).trans ((((tn_setS.trans tn_setS).trans tn_setS).trans tn_setS).trans tn_setS));obtain⟨fv5,lv5,nv5,m3,m4,m5,m6,m7,_⟩:=hM9.st;have g3:=hM9.fz 3;have g4b:=hM9.fz 4;have g5:=hM9.fz 5;have g6:=hM9.fz 6;have g7:=hM9.fz 7;have x0:=heo.z0;have x1:=heo.z1;have x2:wf.cell? ⟨w8.heap.size,2,none⟩=some (.int .i64 s0.log):=heo.z2;have x3:=heo.z3;have x4:=heo.z4;have rc0:=(r8.below hbf).c;rw[HZZ.out]at rc0;have H10:=aB (aA h10 t10);clear o1 o2 o3 o4 r8 t8 hbf heo hM9 hx9 h10 t10 hxn hyn hmn hon hltF)
     |(go_at_call 235;refine(cO (v:=s0.next) (r:=eE (fB s0)++[]) H6.out.2.1 (by omega) (by omega)).mono ?_;rintro r w7 ⟨rfl,r7,t7⟩;have hm7:=H6.out.1.aside (HB0.out.wsm (H6.out.2.2.1.andThen t7 (fun q e=> .inr (by omega)))) t7 (show ¬ mm=w5.heap.size by omega) ⟨rfl,rfl,rfl⟩;have H7:=aB (aA r7 (aA hm7 (aA (H6.out.2.2.1.andThen t7 (fun q e=> .inr (by omega))) (show w.heap.size≤w7.heap.size by have:=H6.out.2.2.1.size;have:=t7.size;omega))));clear r7 t7 hm7)
     |(go_at_call 235;refine(cO (v:=q0) HQ.out.1 (by omega) (by omega)).mono ?_;rintro r w6 ⟨rfl,r6,t6⟩;have hb6:Below (w.setCell ⟨mm,4,none⟩ (.int .i64 1)).heap.size (w.setCell ⟨mm,4,none⟩ (.int .i64 1)) w6:=HQ.out.2.1.trans (t6.below HQ.out.2.1.size (fun q e=>by have:=HQ.out.2.2;omega));have hm6:=HM2.out w6 hb6;have y8:=hm6.c8;have g8:=hm6.fz 8;have h6:=hm6.set8 q0;have H6:=aB (aA h6 (aA (r6.tn (w':=w6.setCell ⟨mm,8,none⟩ (.int .i64 q0)) tn_setS (show ¬ w5.heap.size=mm by omega)) (aA (((tn_setS (w:=w) (b:=mm) (j:=4) (v:= .int .i64 1)).trans (Tn.ofBelow hb6)).trans tn_setS:Tn (fun q=>q=mm) w (w6.setCell ⟨mm,8,none⟩ (.int .i64 q0))) trivial)));clear r6 t6 hb6 hm6 h6)
     |(go_at_call 234;refine(hY _).mono ?_;rintro r wW ⟨rfl,hW⟩;subst wW)
     |(go_at_call 54;refine(HC.out.2.1 _).mono ?_;rintro r w5 ⟨rfl,hb5⟩;obtain⟨wq,hwq⟩:∃ wq,w5.alloc (.cells #[.string x] 282)=wq:=⟨_,rfl⟩;have hbq:Below w5.heap.size w5 wq:=(by rw[← hwq];exact(Below.refl _ _).alloc (Nat.le_refl _) _);have hsz5:w.heap.size≤w5.heap.size:=(by have:=hb5.size;simpa using this);have hrq:RS wq w5.heap.size (aS q0++(aS s0.next++(eE (fB s0)++[]))):=(by rw[List.append_nil];have hx2:(⟨(aS q0++(aS s0.next++eE (fB s0))).toArray⟩:ByteArray)=x:=(by rw[← HC.out.2.2.1];unfold cM;rw[List.append_assoc]);have hl2:=HC.out.2.2.2.1;unfold cM at hl2;rw[List.append_assoc]at hl2;exact⟨(by rw[← hwq,hx2];simp[go_sem]),(by rw[← hwq];simp[go_sem]),by omega⟩);have HQ:=aB (aA hrq (aA (hb5.trans (hbq.mono hb5.size)) (show(w.setCell ⟨mm,4,none⟩ (.int .i64 1)).heap.size≤w5.heap.size from hb5.size)));clear hbq hrq hb5)
     |(go_at_call 55;refine(HC.out.1 _).mono ?_;rintro r wS ⟨rfl,rfl⟩))
    go_meet
    case rel=>exact⟨H10.out.1,H10.out.2⟩
 case rest=>
  obtain⟨hm,ht⟩:=hcut
  rename World=>wv
  have m2:=hm.c2
  have HM0:=aB (aA hm ht)
  clear hm ht m4' g4
  go_wp2_with (first
   |(go_at_call 237;refine(joined_any (rs:=R.map recW) H6.out.2.1 (by rw[List.length_map,H4.out.2.2.2.1];omega) (fun r hr=>by obtain⟨x,hx,rfl⟩:=List.mem_map.1 hr;unfold recW;rw[bQ];exact(H4.out.2.2.2.2.1 x hx).len)).mono ?_;rw[List.length_map,H4.out.2.2.2.1];rintro r wl ⟨ja,jc,rfl,ho7,hb7⟩;have hl7:=H6.out.1.lt;have hf7:=H6.out.1.ltF;have H7:=aB (aA (H6.out.1.stay hb7) (aA (rdX_own (F:=fun q=>F q∨q=mm) ho7 (fun q hq=>hq.elim (fun hq=>hf7 q hq) (fun hq=>by omega))) (H6.out.2.2.trans (Tn.ofBelow hb7))));clear ho7 hb7 hl7 hf7)
   |(go_at_call 238;refine(c_records HM0.out.1.ws H4.out.2.2.1 0 H4.out.2.1 (n:=n) (by rw[List.length_map,List.length_map];exact H4.out.2.2.2.1)).mono ?_;rintro r w6 ⟨ra,rc,rfl,hx6,hb6⟩;have H6:=aB (aA (HM0.out.1.stay hb6) (aA hx6.rd (HM0.out.2.trans (Tn.ofBelow hb6))));clear hx6 hb6))
  go_loopw [77] (fun y wr=>∃ (j:Nat) (s':PS) (q':Int),j≤n∧y= .int .i64 (j:Int)∧MS B w0 wr F G db mb lb mp mm D L dir s' q' false∧LoadsR s' q' (R.drop j) t p∧cR s'∧(0≤q'∧q'≤1000000)∧Tn (fun q=>q=mm) wl wr) (fun y _=>n - (intOf y).toNat)
  case atStart=>exact⟨0,s0,q0,by omega,rfl,H7.out.1,H4.out.2.2.2.2.2,HB.out.1,HB.out.2,Tn.refl _ _⟩
  case round=>
   obtain⟨j,s',q',hj,rfl,hms,hlr,hgs,hq',htl⟩:=hrel
   by_cases hlt:j<n
   · have hjl:j<R.length:=by rw[H4.out.2.2.2.1];exact hlt
     obtain⟨xr,hxr⟩:∃ x,R[j]=x:=⟨_,rfl⟩
     have hok:=H4.out.2.2.2.2.1 xr (by rw[← hxr];exact List.getElem_mem hjl)
     rw[jY hjl,hxr]at hlr
     obtain⟨ja',jc',hxx,hcs⟩:=H7.out.2.1
     injection hxx with hx1 hx2 hx3
     obtain⟨xb,off,hab,hnb,hbl,hcell⟩:=hcs.resolve_left (fun e=>by have:=congrArg List.length e;rw[List.length_map]at this;simp at this;rw[this]at hjl;simp at hjl)
     rw[hab]at hx1
     subst hx1
     have c1:=hcell j (by rw[List.length_map];exact hjl)
     rw[List.getElem_map,hxr]at c1
     have c2:=htl.cell (p:=⟨xb,off+j,none⟩) c1 (fun e=>hnb (.inr e))
     obtain⟨q1,e1⟩:=xr
     obtain⟨S1,hS1⟩:∃ S,recW (q1,e1)=S:=⟨_,rfl⟩
     rw[hS1]at c2
     obtain⟨wq,hwq⟩:∃ wq,wr.alloc (.cells #[.string S1] 282)=wq:=⟨_,rfl⟩
     have hbq:Below wr.heap.size wr wq:=by rw[← hwq];exact(Below.refl _ _).alloc (Nat.le_refl _) _
     have hrq:RS wq wr.heap.size (aS q1++(eE e1++[])):=by
      rw[List.append_nil]
      refine⟨?_,?_,?_⟩
      · rw[← hwq]
        have:(⟨(aS q1++eE e1).toArray⟩:ByteArray)=S1:=hS1
        rw[this]
        simp[go_sem]
      · rw[← hwq];simp[go_sem]
      · have:=hok.len
        unfold recL at this
        simp only at this
        omega
     have hqb:=hok.q
     simp only at hqb
     have z0:(j:Int)<(n:Int):=by omega
     have z1:(0:Int)≤(j:Int):=by omega
     have hmr:mm<wr.heap.size:=hms.lt
     have HRR:=aB (aA hms (aA hlr (aA hgs (aA htl (aA hok (aA hbq hrq))))))
     obtain⟨zz,hzz⟩:∃ z:ByteArray,(⟨([]:List UInt8).toArray⟩:ByteArray)=z:=⟨_,rfl⟩
     have t1:zz.toList.isEmpty=true:=jX (by rw[← hzz];rfl)
     have hq1':q1≤q'+1:=by
      rcases hlr with⟨h1,_⟩|⟨h1,_⟩
      · simp only at h1;omega
      · simp only at h1;omega
     have hwp:IntKind.i64.wrap (q'+1)=q'+1:=IntWalk.i64_in _ (by omega)
     have HZZ:=aB hzz
     clear hzz
     clear hms hlr hgs htl hok hbq hrq c1 hcell hnb hbl hxr hS1 hab hcs hx2 hx3
     go_upto_region 17 with(first
      |(go_at_call 236;refine(redit_any (r:=[]) H8.out.1 HRR.out.2.2.2.2.1.ok).mono ?_;rintro r w9 ⟨ve,rfl,⟨xv,yv,mv,ov,rfl,o1,o2,o3,o4⟩,r9,t9⟩;obtain⟨xa,xc,rfl,_,_⟩:=aI o1;obtain⟨ya,yc,rfl,_,_⟩:=aI o2;obtain⟨ma,mc,rfl,_,_⟩:=aI o3;obtain⟨oa,oc,rfl,_,_⟩:=aI o4;obtain⟨xn,hxn⟩:∃ n,e1.add.length=n:=⟨_,rfl⟩;obtain⟨yn,hyn⟩:∃ n,e1.rem.length=n:=⟨_,rfl⟩;obtain⟨mn,hmn⟩:∃ n,e1.fl.length=n:=⟨_,rfl⟩;obtain⟨on,hon⟩:∃ n,e1.ns.length=n:=⟨_,rfl⟩;rw[hxn,hyn,hmn,hon];obtain⟨wf,hwf⟩:∃ wf,w9.alloc (.cells #[.slice xa xn xc,.slice ya yn yc,.int .i64 e1.log,.slice ma mn mc,.slice oa on oc] 56)=wf:=⟨_,rfl⟩;have hbf:Below w9.heap.size w9 wf:=(by rw[← hwf];exact(Below.refl _ _).alloc (Nat.le_refl _) _);have hzf:w9.heap.size<wf.heap.size:=(by rw[← hwf];simp);have heo:eH wf w9.heap.size (.slice xa xn xc) (.slice ya yn yc) (.int .i64 e1.log) (.slice ma mn mc) (.slice oa on oc):=(by rw[← hwf];refine⟨?_,?_,?_,?_,?_,fun j=>?_⟩<;>simp[go_sem]);have hEv:EdV wf (.agg #[.slice xa xn xc,.slice ya yn yc,.int .i64 e1.log,.slice ma mn mc,.slice oa on oc]) e1:=(by rw[← hxn,←hyn,←hmn,←hon];exact⟨_,_,_,_,rfl,(bE.rda (e:=eFi) o1).below hbf,(bE.rda (e:=eIn) o2).below hbf,(bE.rda (e:=eVec) o3).below hbf,(bE.rda (e:=eNt) o4).below hbf⟩);have hB9:Below wr.heap.size wr wf:=((H8.out.2.trans (t9.below (by have:=H8.out.2.size;omega) (fun q hq=>by omega))).trans (hbf.mono (by have:=H8.out.2.size;have:=t9.size;omega)));have hM9:=HRR.out.1.stay hB9;have y8:=hM9.c8;have hr9:RS wf wr.heap.size []:=r9.below hbf;have rc0:=hr9.c;rw[HZZ.out]at rc0;have H9:=aB (aA hM9 (aA heo (aA hEv (aA hB9 hr9))));clear o1 o2 o3 o4 r9 t9 hbf heo hEv hB9 hM9 hxn hyn hmn hon hr9)
      |(go_at_call 235;refine(cO (v:=q1) HRR.out.2.2.2.2.2.2 hqb.1 (by omega)).mono ?_;rintro r w8 ⟨rfl,r8,t8⟩;have H8:=aB (aA r8 (HRR.out.2.2.2.2.2.1.trans (t8.below (by have:=HRR.out.2.2.2.2.2.1.size;omega) (fun q hq=>by omega))));clear r8 t8))
     by_cases hcmp:q1≤q'
     · have hlr2:LoadsR s' q' (R.drop (j+1)) t p:=by
        rcases HRR.out.2.1 with⟨_,h2⟩|⟨h1,_⟩
        · exact h2
        · simp only at h1;omega
       have HLR:=aB hlr2
       clear hlr2
       go_wp2_with (go_at_call 234;refine(hY _).mono ?_;rintro r wW ⟨rfl,hW⟩;subst wW)
       go_roundw
       case rel=>exact⟨j+1,s',q',by omega,by go_num,H9.out.1,HLR.out,HRR.out.2.2.1,hq',HRR.out.2.2.2.1.trans (Tn.ofBelow H9.out.2.2.2.1)⟩
       case measure=>simp[intOf];omega
     · obtain⟨hq11,s1,hap,hlr2⟩:q1=q'+1∧∃ s1,aO s' e1=(0,s1)∧LoadsR s1 (q'+1) (R.drop (j+1)) t p:=by
        rcases HRR.out.2.1 with⟨h1,_⟩|h1
        · simp only at h1;omega
        · exact h1
       have hgood1:=(kS HRR.out.2.2.1 hap).1
       have hlo:=HRR.out.2.2.2.2.1.ok
       obtain⟨fv9,lv9,nv9,k3,k4,k5,k6,k7,hst9⟩:=H9.out.1.st
       have hmb:MmB wf mm db lb dir fv9 (.int .i64 s'.next) (.int .i64 s'.log) lv9 nv9 q' false:=⟨H9.out.1.c0,H9.out.1.c1,H9.out.1.c2,k3,k4,k5,k6,k7,H9.out.1.c8,H9.out.1.c9⟩
       have hfl8:e1.fl.length≤100000:=by
        rcases hlo.fl with h|h
        · simp only at h;rw[h];simp
        · unfold iS at h
          simp only[Bool.and_eq_true,decide_eq_true_eq]at h
          omega
       have hap1:∀ y,Below wf.heap.size wf y→Calls Tryz.prog 26 #[.agg #[fv9,.int .i64 s'.next,.int .i64 s'.log,lv9,nv9],.agg #[.slice xa xn xc,.slice ya yn yc,.int .i64 e1.log,.slice ma mn mc,.slice oa on oc]] y (AqAns s1 0 y):=fun y hy=>by
        have:=apply_aq (hst9.st.below hy) (H9.out.2.2.1.below hy) HRR.out.2.2.1 hlo.addn hlo.remn hfl8 hlo.nsn
        rw[hap]at this
        exact this
       have HAP:=aB hap1
       have HC1:=aB (aA hmb H9.out.2.1)
       have HL2:=aB (aA hlr2 (aA hgood1 hq11))
       have hq1p:0≤q1∧q1≤1000000:=hqb
       clear hap1 hmb k3 k4 k5 k6 k7 hst9 hlo hfl8 hlr2 hgood1 hap hq11
       go_upto_region 19 with(go_at_call 234;refine(hY _).mono ?_;rintro r wW ⟨rfl,hW⟩;subst wW)
       clear y8 rc0 hwq hwf c2
       go_cut [14,15] (fun y14 y15 wx=>CmAns s1 0 wf y14 y15 wx)
       case first=>
        have hS:∀ w',Below wf.heap.size wf w'→(w'.cell? ⟨mm,3,none⟩=some fv9∧w'.cell? ⟨mm,4,none⟩=some (.int .i64 s'.next)∧w'.cell? ⟨mm,5,none⟩=some (.int .i64 s'.log)∧w'.cell? ⟨mm,6,none⟩=some lv9∧w'.cell? ⟨mm,7,none⟩=some nv9∧w'.cell? ⟨w9.heap.size,0,none⟩=some (.slice xa xn xc)∧w'.cell? ⟨w9.heap.size,1,none⟩=some (.slice ya yn yc)∧w'.cell? ⟨w9.heap.size,2,none⟩=some (.int .i64 e1.log)∧w'.cell? ⟨w9.heap.size,3,none⟩=some (.slice ma mn mc)∧w'.cell? ⟨w9.heap.size,4,none⟩=some (.slice oa on oc)):=fun w' hy=>⟨(HC1.out.1.below hy).c3,(HC1.out.1.below hy).c4,(HC1.out.1.below hy).c5,(HC1.out.1.below hy).c6,(HC1.out.1.below hy).c7,(HC1.out.2.below hy).and⟩
        have HSS:=aB hS
        clear hS
        refine dQ (fun w'=>w'.cell? ⟨mm,3,none⟩=some fv9∧w'.cell? ⟨mm,4,none⟩=some (.int .i64 s'.next)∧w'.cell? ⟨mm,5,none⟩=some (.int .i64 s'.log)∧w'.cell? ⟨mm,6,none⟩=some lv9∧w'.cell? ⟨mm,7,none⟩=some nv9∧w'.cell? ⟨w9.heap.size,0,none⟩=some (.slice xa xn xc)∧w'.cell? ⟨w9.heap.size,1,none⟩=some (.slice ya yn yc)∧w'.cell? ⟨w9.heap.size,2,none⟩=some (.int .i64 e1.log)∧w'.cell? ⟨w9.heap.size,3,none⟩=some (.slice ma mn mc)∧w'.cell? ⟨w9.heap.size,4,none⟩=some (.slice oa on oc)) 11 12 (HSS.out _ (Below.refl _ _).drew) (fun hH=>?_)
        refine bU [[0],[1],[2],[3],[4]] hH ?_
        obtain⟨wz,hwz⟩:∃ wz,wf.drew=wz:=⟨_,rfl⟩
        have hz0:Below wf.heap.size wf wz:=by rw[← hwz];exact(Below.refl _ _).drew
        have hz1:wz.heap.size=wf.heap.size:=by rw[← hwz];rfl
        rw[hwz]at hH ⊢
        have HZ0:=aB (aA hz0 hz1)
        clear hwz hz0 hz1
        refine dX (rs:=[5,9]) (by kernel_rfl) (by simp) (fun i hi=>?_)
        rcases List.mem_cons.1 hi with rfl|hi2
        · refine gD rfl (fun K hK=>?_) (by kernel_rfl)
          go_simp
          go_at_call 26
          refine(HAP.out _ HZ0.out.1).mono ?_
          rintro r w5 ⟨fa,fc,la,lc,na,nc,rfl,o1,o2,o3,hb⟩
          have HO:=aB (aA o1 (aA o2 (aA o3 hb)))
          clear o1 o2 o3 hb
          have HX1:=aB (HZ0.out.1.trans (HO.out.2.2.2.mono HZ0.out.1.size))
          refine bH hK (HSS.out _ HX1.out) ?_
          clear hK K
          intro hH
          refine bU [[6],[7],[8]] hH ?_
          refine bM (i:=9) rfl (fun K hK=>?_)
          go_simp
          obtain⟨ob,hob⟩:∃ k,w5.heap.size=k:=⟨_,rfl⟩
          rw[hob]
          obtain⟨wb,hwb⟩:∃ wb,w5.alloc (.cells #[.slice none 0 0,.int .i64 0,.int .i64 0,.slice none 0 0,.slice none 0 0] 35)=wb:=⟨_,rfl⟩
          rw[hwb]
          have hbb:Below w5.heap.size w5 wb:=by rw[← hwb];exact(Below.refl _ _).alloc (Nat.le_refl _) _
          have hoz:gG wb ob:=by rw[← hob,←hwb];exact gG.made _
          have HB:=aB (aA hbb (aA hoz hob))
          clear hbb hoz hob hwb
          have HX2:=aB (HX1.out.trans (HB.out.1.mono HX1.out.size))
          refine bH hK (HSS.out _ HX2.out) ?_
          clear hK K
          intro hH
          have hoz:gG wb ob:=HB.out.2.1
          have z0:=hoz.z0
          have z1:=hoz.z1
          have z2:=hoz.z2
          have z3:=hoz.z3
          have z4:=hoz.z4
          have f0:=hoz.zf 0
          have f1:=hoz.zf 1
          have f2:=hoz.zf 2
          have f3:=hoz.zf 3
          have f4:=hoz.zf 4
          have HQ:=aB hoz
          clear hoz
          refine bM (i:=10) rfl (fun K hK=>?_)
          go_simp
          refine bH hK (HSS.out _ (HX2.out.trans (tn5.below HX2.out.size (fun q hq=>by rw[hq,←HB.out.2.2];exact HX1.out.size)))) ?_
          clear hK K
          intro hH
          refine eU ?_
          clear hH
          go_wp2_with fail
          go_meet
          case rel=>exact kB HX2.out HQ.out (by rw[← HB.out.2.2];exact HX1.out.size) (aD HO.out.1 HB.out.1) (aD HO.out.2.1 HB.out.1) (aD HO.out.2.2.1 HB.out.1) HZ0.out.1.size (fun q hq=>by have:=(HO.out.1.lt q hq).2;have:=HB.out.2.2;omega) (fun q hq=>by have:=(HO.out.2.1.lt q hq).2;have:=HB.out.2.2;omega) (fun q hq=>by have:=(HO.out.2.2.1.lt q hq).2;have:=HB.out.2.2;omega)
        · obtain rfl:=List.mem_singleton.1 hi2
          refine gD rfl (fun K hK=>?_) (by kernel_rfl)
          go_simp
          obtain⟨ob,hob⟩:∃ k,wz.heap.size=k:=⟨_,rfl⟩
          rw[hob]
          obtain⟨wb,hwb⟩:∃ wb,wz.alloc (.cells #[.slice none 0 0,.int .i64 0,.int .i64 0,.slice none 0 0,.slice none 0 0] 35)=wb:=⟨_,rfl⟩
          rw[hwb]
          have hbb:Below wz.heap.size wz wb:=by rw[← hwb];exact(Below.refl _ _).alloc (Nat.le_refl _) _
          have hoz:gG wb ob:=by rw[← hob,←hwb];exact gG.made _
          have HB:=aB (aA hbb (aA hoz hob))
          clear hbb hoz hob hwb
          have HX1:=aB (HZ0.out.1.trans (HB.out.1.mono HZ0.out.1.size))
          refine bH hK (HSS.out _ HX1.out) ?_
          clear hK K
          intro hH
          refine bM (i:=5) rfl (fun K hK=>?_)
          go_simp
          go_at_call 26
          refine(HAP.out _ HX1.out).mono ?_
          rintro r w5 ⟨fa,fc,la,lc,na,nc,rfl,o1,o2,o3,hb⟩
          have HO:=aB (aA o1 (aA o2 (aA o3 hb)))
          clear o1 o2 o3 hb
          have HX2:=aB (HX1.out.trans (HO.out.2.2.2.mono HX1.out.size))
          refine bH hK (HSS.out _ HX2.out) ?_
          clear hK K
          intro hH
          refine bU [[6],[7],[8]] hH ?_
          have hoz:gG w5 ob:=HB.out.2.1.below HO.out.2.2.2
          have z0:=hoz.z0
          have z1:=hoz.z1
          have z2:=hoz.z2
          have z3:=hoz.z3
          have z4:=hoz.z4
          have f0:=hoz.zf 0
          have f1:=hoz.zf 1
          have f2:=hoz.zf 2
          have f3:=hoz.zf 3
          have f4:=hoz.zf 4
          have HQ:=aB hoz
          clear hoz
          refine bM (i:=10) rfl (fun K hK=>?_)
          go_simp
          refine bH hK (HSS.out _ (HX2.out.trans (tn5.below HX2.out.size (fun q hq=>by rw[hq,←HB.out.2.2];exact HZ0.out.1.size)))) ?_
          clear hK K
          intro hH
          refine eU ?_
          clear hH
          go_wp2_with fail
          go_meet
          case rel=>exact kB HX2.out HQ.out (by rw[← HB.out.2.2];exact HZ0.out.1.size) HO.out.1 HO.out.2.1 HO.out.2.2.1 HX1.out.size (fun q hq=>by have:=(HO.out.1.lt q hq).1;have:=HB.out.2.1.lt;omega) (fun q hq=>by have:=(HO.out.2.1.lt q hq).1;have:=HB.out.2.1.lt;omega) (fun q hq=>by have:=(HO.out.2.2.1.lt q hq).1;have:=HB.out.2.1.lt;omega)
       case rest=>
        obtain⟨hbx,ob,fa,fc,la,lc,na,nc,rfl,rfl,hob,ho,o1,o2,o3,n1,n2,n3⟩:=hcut
        have hMc:=H9.out.1.stay hbx
        have hltw:=H9.out.1.ltF
        have hmw:=H9.out.1.lt
        have hxc:StX (fun q=>F q∨q=mm) wc (.agg #[.slice fa s1.fs.length fc,.int .i64 s1.next,.int .i64 s1.log,.slice la s1.fl.length lc,.slice na s1.ns.length nc]) s1:=
         kI.stx (B:=wf.heap.size) ⟨_,_,_,rfl,o1,o2,o3⟩ (fun q hq=>hq.elim (fun hq=>hltw q hq) (fun hq=>by omega))
        obtain⟨tfn,htf⟩:∃ n,s1.fs.length=n:=⟨_,rfl⟩
        obtain⟨tln,htl⟩:∃ n,s1.fl.length=n:=⟨_,rfl⟩
        obtain⟨tnn,htn⟩:∃ n,s1.ns.length=n:=⟨_,rfl⟩
        rw[htf,htl,htn]at hxc ho
        have h9:=(hMc.setS hxc).set8 q1
        obtain⟨fv5,lv5,nv5,m3,m4,m5,m6,m7,_⟩:=hMc.st
        have m8:=hMc.c8
        have g3:=hMc.fz 3
        have g4':=hMc.fz 4
        have g5:=hMc.fz 5
        have g6:=hMc.fz 6
        have g7:=hMc.fz 7
        have g8:=hMc.fz 8
        have x0:=ho.z0
        have x1:=ho.z1
        have x2:=ho.z2
        have x3:=ho.z3
        have x4:=ho.z4
        have t9:Tn (fun q=>q=mm) wl ((((((wc.setCell ⟨mm,3,none⟩ (.slice fa tfn fc)).setCell ⟨mm,4,none⟩ (.int .i64 s1.next)).setCell ⟨mm,5,none⟩ (.int .i64 s1.log)).setCell ⟨mm,6,none⟩ (.slice la tln lc)).setCell ⟨mm,7,none⟩ (.slice na tnn nc)).setCell ⟨mm,8,none⟩ (.int .i64 q1)):=
         ((HRR.out.2.2.2.1.trans (Tn.ofBelow H9.out.2.2.2.1)).trans (Tn.ofBelow hbx)).trans (((((tn_setS.trans tn_setS).trans tn_setS).trans tn_setS).trans tn_setS).trans tn_setS)
        have HE9:=aB (aA h9 t9)
        clear hbx hMc hltw hmw hxc ho hob o1 o2 o3 n1 n2 n3 htf htl htn h9 t9
        go_wp2_with (go_at_call 234;refine(hY _).mono ?_;rintro r wW ⟨rfl,hW⟩;subst wW)
        go_roundw
        case rel=>exact⟨j+1,s1,q1,by omega,by go_num,HE9.out.1,by rw[HL2.out.2.2];exact HL2.out.1,HL2.out.2.1,by omega,HE9.out.2⟩
        case measure=>simp[intOf];omega
   · obtain rfl:j=n:=by omega
     have hdr:R.drop j=[]:=by rw[← H4.out.2.2.2.1];exact lS _
     rw[hdr]at hlr
     obtain⟨rfl,rfl⟩:=hlr
     have HE:=aB (aA hms (H7.out.2.2.trans htl))
     have z0:¬ (j:Int)<(j:Int):=by omega
     clear hms htl hgs hdr
     go_wp2
     go_end0
     exact⟨rfl,HE.out.1,HE.out.2⟩
end
end Go.Proofs.YtpfibkgmfapnjaaGreatDoor
