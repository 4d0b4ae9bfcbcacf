/- Manifest: Commit of an edit that is taken, in general. -/
import Derived.Test.YtpfibkgmfapnjaaGreatDoorS37
import Derived.Test.YtpfibkgmfapnjaaGreatDoorS38
set_option linter.unusedSimpArgs false
set_option linter.unusedVariables false
namespace Go.Proofs.YtpfibkgmfapnjaaGreatDoor
section
open Go.RowKit
variable {w w' w0:World} {F F' G G' H:Nat→Prop} {B db mb lb mp mm k n:Nat} {D D':Dk} {L L':Lg} {S:List (Nat×Fl)} {dir dr bb:ByteArray} {s t:PS} {e:PE} {seq:Int} {stuck:Bool} {v:Value}
def EdX (F:Nat→Prop) (w:World) (v:Value) (e:PE):Prop:=∃ xv yv mv ov,v= .agg #[xv,yv,.int .i64 e.log,mv,ov]∧kE F Fi.cells 6 w xv e.add∧kE F cI1 1 w yv e.rem∧kE F cI1 1 w mv e.fl∧kE F cNt 2 w ov e.ns
theorem EdX.ed (h:EdX F w v e):EdV w v e:=by
 obtain⟨xv,yv,mv,ov,rfl,h1,h2,h3,h4⟩:=h
 exact⟨_,_,_,_,rfl,h1.rd,h2.rd,h3.rd,h4.rd⟩
theorem EdX.step (h:EdX F w v e) (ht:Tn H w w') (hH:∀ q,q<w.heap.size→H q→F q) (hF:∀ q,F' q→F q∨w.heap.size≤q):EdX F' w' v e:=by
 obtain⟨xv,yv,mv,ov,rfl,h1,h2,h3,h4⟩:=h
 exact⟨_,_,_,_,rfl,h1.step ht hH hF,h2.step ht hH hF,h3.step ht hH hF,h4.step ht hH hF⟩
theorem rdax_of {α:Type} {cell:α→List Value} {k:Nat} {x:Value} {l:List α} (h:mA cell k w x l) (hF:∀ q,F q→w.heap.size≤q):kE F cell k w x l:=by
 obtain⟨a,c,h1,h2,h3,h4,h5⟩:=h
 exact⟨a,c,h1,h2,h3,h4,h5.imp id (fun⟨b,off,q1,q2,q3⟩=>⟨b,off,q1,fun e=>by have:=hF b e;omega,q2,q3⟩)⟩
theorem EdX.of (h:EdV w v e) (hF:∀ q,F q→w.heap.size≤q):EdX F w v e:=by
 obtain⟨xv,yv,mv,ov,rfl,h1,h2,h3,h4⟩:=h
 exact⟨_,_,_,_,rfl,rdax_of h1 hF,rdax_of h2 hF,rdax_of h3 hF,rdax_of h4 hF⟩
def recL (q:Int) (e:PE):List UInt8:=aS q++eE e
def eJ (q:Int) (e:PE):ByteArray:=wB++⟨(recL q e).toArray⟩
structure mB (D:Dk) (L:Lg) (r:ByteArray):Prop where
 pre:AppPre D L
 go:(L.append D r).1=0→(L.append D r).2.1.on=true∧(L.append D r).2.1.acts<1000000
def CmtE (B:Nat) (w0 w:World) (F:Nat→Prop) (db mb lb mp mm:Nat) (dir:ByteArray) (s t:PS) (seq:Int) (x:Int×Dk×Lg) (r:Ending) (w':World):Prop:=
 r= .returned (.int .i64 x.1)∧∃ F' G':Nat→Prop,((x.1=0∧MS B w0 w' F' G' db mb lb mp mm x.2.1 x.2.2 dir t (seq+1) false)∨(x.1≠0∧MS B w0 w' F' G' db mb lb mp mm x.2.1 x.2.2 dir s seq (decide (x.1=20))))∧Tn (fun q=>F q∨q=mm) w w'∧(∀ q,F' q→F q∨w.heap.size≤q)∧∀ q,F q→F' q
def CmtR (B:Nat) (w0 w:World) (F:Nat→Prop) (db mb lb mp mm:Nat) (D:Dk) (L:Lg) (dir bb:ByteArray) (s t:PS) (e:PE) (seq:Int) (r:Ending) (w':World):Prop:=
 ∃ M:List KV,M.Perm (eR s.ns e.ns)∧CmtE B w0 w F db mb lb mp mm dir s t seq (dK dir D L bb (eJ (seq+1) {e with ns:=M})) r w'
structure At8 (B:Nat) (w0 w w8:World) (F F8 G8:Nat→Prop) (db mb lb mp mm ob:Nat) (D8:Dk) (L8:Lg) (dir:ByteArray) (s t:PS) (e:PE) (seq:Int) (fv lv nv:Value) (x0 x1 x2 x3 x4 y0 y3 y4:Value):Prop where
 fm:MS B w0 w8 F8 G8 db mb lb mp mm D8 L8 dir s seq false
 fmb:MmB w8 mm db lb dir fv (.int .i64 s.next) (.int .i64 s.log) lv nv seq false
 feb:eH w8 w.heap.size x0 x1 x2 x3 x4
 ft:Tn (fun q=>F q∨q=mm) w w8
 fn:∀ q,F8 q→F q∨w.heap.size≤q
 fg:∀ q,F q→F8 q
 fob:eH w8 ob y0 (.int .i64 t.next) (.int .i64 t.log) y3 y4
 fx:StX (fun q=>F8 q∨q=mm) w8 (.agg #[y0,.int .i64 t.next,.int .i64 t.log,y3,y4]) t
 fev:EdV w8 (.agg #[x0,x1,x2,x3,x4]) e
 fsv:StV w8 (.agg #[fv,.int .i64 s.next,.int .i64 s.log,lv,nv]) s
 fne:¬ F8 w.heap.size
 fno:¬ F8 ob
section
variable {w8:World} {F8 G8:Nat→Prop} {ob:Nat} {D8:Dk} {L8:Lg} {fv lv nv x0 x1 x2 x3 x4 y0 y3 y4:Value}
theorem At8.below (h:At8 B w0 w w8 F F8 G8 db mb lb mp mm ob D8 L8 dir s t e seq fv lv nv x0 x1 x2 x3 x4 y0 y3 y4) (hb:Below w8.heap.size w8 w'):At8 B w0 w w' F F8 G8 db mb lb mp mm ob D8 L8 dir s t e seq fv lv nv x0 x1 x2 x3 x4 y0 y3 y4:=
 ⟨h.fm.stay hb,h.fmb.below hb,h.feb.below hb,h.ft.trans (Tn.ofBelow hb),h.fn,h.fg,h.fob.below hb,h.fx.step (Tn.ofBelow (F:=fun _=>False) hb) (fun _ _ e=>e.elim) (fun _ e=> .inl e),h.fev.below hb,h.fsv.below hb,h.fne,h.fno⟩
theorem At8.cells (h:At8 B w0 w w8 F F8 G8 db mb lb mp mm ob D8 L8 dir s t e seq fv lv nv x0 x1 x2 x3 x4 y0 y3 y4):
 w8.cell? ⟨mm,2,none⟩=some (.pointer (some ⟨lb,0,none⟩))∧w8.cell? ⟨mm,8,none⟩=some (.int .i64 seq)∧w8.cell? ⟨mm,3,none⟩=some fv∧w8.cell? ⟨mm,4,none⟩=some (.int .i64 s.next)∧w8.cell? ⟨mm,5,none⟩=some (.int .i64 s.log)∧w8.cell? ⟨mm,6,none⟩=some lv∧w8.cell? ⟨mm,7,none⟩=some nv∧w8.cell? ⟨w.heap.size,0,none⟩=some x0∧w8.cell? ⟨w.heap.size,1,none⟩=some x1∧w8.cell? ⟨w.heap.size,2,none⟩=some x2∧w8.cell? ⟨w.heap.size,3,none⟩=some x3∧w8.cell? ⟨w.heap.size,4,none⟩=some x4:=
 ⟨h.fmb.c2,h.fmb.c8,h.fmb.c3,h.fmb.c4,h.fmb.c5,h.fmb.c6,h.fmb.c7,h.feb.and⟩
end
theorem commit_end {x:Int×Dk×Lg} {w1:World} (h:MS B w0 w1 F' G' db mb lb mp mm x.2.1 x.2.2 dir s seq stuck) (hx:x.1≠0) (a:Tn (fun q=>F q∨q=mm) w w1) (n:∀ q,F' q→F q∨w.heap.size≤q) (g:∀ q,F q→F' q):Calls Tryz.prog 49 #[.pointer (some ⟨mm,0,none⟩),.int .i64 x.1] w1 (CmtE B w0 w F db mb lb mp mm dir s t seq x):=by
 refine(mdone_at h x.1).mono ?_
 rintro r w2 ⟨rfl,h2,hw2⟩
 refine⟨rfl,F',G',.inr ⟨hx,h2⟩,?_,n,g⟩
 rw[hw2]
 exact a.trans (tn_setS.mono (fun q e=> .inr e))
theorem commit_fin {x:Int×Dk×Lg} {w1:World} (h:MS B w0 w1 F' G' db mb lb mp mm x.2.1 x.2.2 dir t (seq+1) stuck) (hx:x.1=0) (a:Tn (fun q=>F q∨q=mm) w w1) (n:∀ q,F' q→F q∨w.heap.size≤q) (g:∀ q,F q→F' q):Calls Tryz.prog 49 #[.pointer (some ⟨mm,0,none⟩),.int .i64 0] w1 (CmtE B w0 w F db mb lb mp mm dir s t seq x):=by
 refine(mdone_at h 0).mono ?_
 rintro r w2 ⟨rfl,h2,hw2⟩
 rw[show decide ((0:Int)=20)=false by decide]at h2
 refine⟨by rw[hx],F',G',.inl ⟨hx,h2⟩,?_,n,g⟩
 rw[hw2]
 exact a.trans (tn_setS.mono (fun q e=> .inr e))
set_option maxRecDepth 100000 in
set_option maxHeartbeats 16000000 in
theorem commit_any {ev:Value} (h:MS B w0 w F G db mb lb mp mm D L dir s seq false) (hg:cR s) (hseq:0≤seq∧seq≤1000000) (hdz:dir.size≤30) (hex:EdX (fun q=>F q∨q=mm) w ev e) (hq1:e.add.length≤100000) (hq2:e.rem.length≤100000) (hq4:e.ns.length≤100000) (hfl:e.fl.length≤100000) (hap:aO s e=(0,t))
 (hlo:∀ M:List KV,M.Perm (eR s.ns e.ns)→LaidOk {e with ns:=M}∧(eE {e with ns:=M}).length≤90000) (hbb:cT s seq=bb) (hon0:D.on=true) (hsw:17≤(D.list (dir++tM)).length→SwPre dir D L bb)
 (hly:∀ M:List KV,M.Perm (eR s.ns e.ns)→(¬ 17≤(D.list (dir++tM)).length→mB D L (eJ (seq+1) {e with ns:=M}))∧(17≤(D.list (dir++tM)).length→(dC dir D L bb).1=0→mB (dC dir D L bb).2.1 (dC dir D L bb).2.2 (eJ (seq+1) {e with ns:=M}))):
 Calls Tryz.prog 14 #[.pointer (some ⟨mm,0,none⟩),ev] w (CmtR B w0 w F db mb lb mp mm D L dir bb s t e seq):=by
 have HEX:=aB hex
 have he:=hex.ed
 clear hex
 have HE:=aB he
 have hq1':=hq1
 have hq2':=hq2
 have hq4':=hq4
 obtain⟨xv,yv,mv,ov,rfl,he1,he2,he3,he4⟩:=he
 obtain⟨xa,xc,rfl,_,_⟩:=he1.form
 obtain⟨ya,yc,rfl,_,_⟩:=he2.form
 obtain⟨ma,mc,rfl,_,_⟩:=he3.form
 obtain⟨oa,oc,rfl,_,_⟩:=he4.form
 obtain⟨xn,hxn⟩:∃ n,e.add.length=n:=⟨_,rfl⟩
 obtain⟨yn,hyn⟩:∃ n,e.rem.length=n:=⟨_,rfl⟩
 obtain⟨mn,hmn⟩:∃ n,e.fl.length=n:=⟨_,rfl⟩
 obtain⟨on,hon⟩:∃ n,e.ns.length=n:=⟨_,rfl⟩
 rw[hxn,hyn,hmn,hon]at HE HEX ⊢
 clear he1 he2 he3 he4
 obtain⟨w1,hw1⟩:∃ w1,w.alloc (.cells #[.slice xa xn xc,.slice ya yn yc,.int .i64 e.log,.slice ma mn mc,.slice oa on oc] 56)=w1:=⟨_,rfl⟩
 have hb1:Below w.heap.size w w1:=by rw[← hw1];exact(Below.refl _ _).alloc (Nat.le_refl _) _
 have hz1:w1.heap.size=w.heap.size+1:=by rw[← hw1];simp
 have he1:eH w1 w.heap.size (.slice xa xn xc) (.slice ya yn yc) (.int .i64 e.log) (.slice ma mn mc) (.slice oa on oc):=by
  rw[← hw1]
  refine⟨?_,?_,?_,?_,?_,fun j=>?_⟩
  all_goals simp[go_sem]
 have hM1:=h.stay hb1
 obtain⟨fv,lv,nv,h3,h4,h5,h6,h7,hst⟩:=hM1.st
 have hmb:MmB w1 mm db lb dir fv (.int .i64 s.next) (.int .i64 s.log) lv nv seq false:=⟨hM1.c0,hM1.c1,hM1.c2,h3,h4,h5,h6,h7,hM1.c8,hM1.c9⟩
 have hap1:∀ y,Below w1.heap.size w1 y→Calls Tryz.prog 26 #[.agg #[fv,.int .i64 s.next,.int .i64 s.log,lv,nv],.agg #[.slice xa xn xc,.slice ya yn yc,.int .i64 e.log,.slice ma mn mc,.slice oa on oc]] y (AqAns t 0 y):=fun y hy=>by
  have:=apply_aq (hst.st.below hy) ((HE.out.below hb1).below hy) hg hq1' hq2' hfl hq4'
  rw[hap]at this
  exact this
 have HAP:=aB hap1
 have hno:=jD hM1.c0
 have HNO:=aB hno
 have HM1:=aB hM1
 have HC1:=aB (aA hmb he1)
 have HST:=aB hst
 have HB1:=aB hb1
 have HQ4:=aB (aA hlo (aA hg (aA hap hq4')))
 have HR:=aB (aA hon0 (aA hsw hly))
 have c9:=hM1.c9
 have gm:=h.nf
 have hltF:=h.ltF
 have HLF:=aB (aA hltF gm)
 have hml:=h.lt
 clear hq1' hq2' hq4' hap1 hno hM1 hmb he1 hst hb1 hlo hg hap hon0 hsw hly h3 h4 h5 h6 h7 h hq1 hq2 hq4 hxn hyn hmn hon hfl hltF gm
 go_enter Tryz.func14,Tryz.ntmps14
 go_upto_region 5 with(go_at_call 43;go_loud (refine HNO.out.mono ?_);rintro r w2 ⟨rfl,rfl⟩)
 clear c9 hw1
 go_cut [5,6] (fun y5 y6 wx=>CmAns t 0 w1 y5 y6 wx)
 case first=>
  have hS:∀ w',Below w1.heap.size w1 w'→(w'.cell? ⟨mm,3,none⟩=some fv∧w'.cell? ⟨mm,4,none⟩=some (.int .i64 s.next)∧w'.cell? ⟨mm,5,none⟩=some (.int .i64 s.log)∧w'.cell? ⟨mm,6,none⟩=some lv∧w'.cell? ⟨mm,7,none⟩=some nv∧w'.cell? ⟨w.heap.size,0,none⟩=some (.slice xa xn xc)∧w'.cell? ⟨w.heap.size,1,none⟩=some (.slice ya yn yc)∧w'.cell? ⟨w.heap.size,2,none⟩=some (.int .i64 e.log)∧w'.cell? ⟨w.heap.size,3,none⟩=some (.slice ma mn mc)∧w'.cell? ⟨w.heap.size,4,none⟩=some (.slice oa on oc)):=fun w' hy=>⟨(HC1.out.1.below hy).c3,(HC1.out.1.below hy).c4,(HC1.out.1.below hy).c5,(HC1.out.1.below hy).c6,(HC1.out.1.below hy).c7,(HC1.out.2.below hy).and⟩
  have HSS:=aB hS
  clear hS
  refine dQ (fun w'=>w'.cell? ⟨mm,3,none⟩=some fv∧w'.cell? ⟨mm,4,none⟩=some (.int .i64 s.next)∧w'.cell? ⟨mm,5,none⟩=some (.int .i64 s.log)∧w'.cell? ⟨mm,6,none⟩=some lv∧w'.cell? ⟨mm,7,none⟩=some nv∧w'.cell? ⟨w.heap.size,0,none⟩=some (.slice xa xn xc)∧w'.cell? ⟨w.heap.size,1,none⟩=some (.slice ya yn yc)∧w'.cell? ⟨w.heap.size,2,none⟩=some (.int .i64 e.log)∧w'.cell? ⟨w.heap.size,3,none⟩=some (.slice ma mn mc)∧w'.cell? ⟨w.heap.size,4,none⟩=some (.slice oa on oc)) 11 12 (HSS.out _ (Below.refl _ _).drew) (fun hH=>?_)
  refine bU [[0],[1],[2],[3],[4]] hH ?_
  obtain⟨wz,hwz⟩:∃ wz,w1.drew=wz:=⟨_,rfl⟩
  have hz0:Below w1.heap.size w1 wz:=by rw[← hwz];exact(Below.refl _ _).drew
  have hz1:wz.heap.size=w1.heap.size:=by rw[← hwz];rfl
  rw[hwz]at hH ⊢
  have HZ0:=aB (aA hz0 hz1)
  clear hwz hz0 hz1
  refine dX (rs:=[5,9]) (by kernel_rfl) (by simp) (fun i hi=>?_)
  rcases List.mem_cons.1 hi with rfl|hi2
  · refine gD rfl (fun K hK=>?_) (by kernel_rfl)
    go_simp
    go_at_call 26
    refine(HAP.out _ HZ0.out.1).mono ?_
    rintro r w5 ⟨fa,fc,la,lc,na,nc,rfl,o1,o2,o3,hb⟩
    have HO:=aB (aA o1 (aA o2 (aA o3 hb)))
    clear o1 o2 o3 hb
    have HX1:=aB (HZ0.out.1.trans (HO.out.2.2.2.mono HZ0.out.1.size))
    refine bH hK (HSS.out _ HX1.out) ?_
    clear hK K
    intro hH
    refine bU [[6],[7],[8]] hH ?_
    refine bM (i:=9) rfl (fun K hK=>?_)
    go_simp
    obtain⟨ob,hob⟩:∃ k,w5.heap.size=k:=⟨_,rfl⟩
    rw[hob]
    obtain⟨wb,hwb⟩:∃ wb,w5.alloc (.cells #[.slice none 0 0,.int .i64 0,.int .i64 0,.slice none 0 0,.slice none 0 0] 35)=wb:=⟨_,rfl⟩
    rw[hwb]
    have hbb:Below w5.heap.size w5 wb:=by rw[← hwb];exact(Below.refl _ _).alloc (Nat.le_refl _) _
    have hoz:gG wb ob:=by rw[← hob,←hwb];exact gG.made _
    have HB:=aB (aA hbb (aA hoz hob))
    clear hbb hoz hob hwb
    have HX2:=aB (HX1.out.trans (HB.out.1.mono HX1.out.size))
    refine bH hK (HSS.out _ HX2.out) ?_
    clear hK K
    intro hH
    have hoz:gG wb ob:=HB.out.2.1
    have z0:=hoz.z0
    have z1:=hoz.z1
    have z2:=hoz.z2
    have z3:=hoz.z3
    have z4:=hoz.z4
    have f0:=hoz.zf 0
    have f1:=hoz.zf 1
    have f2:=hoz.zf 2
    have f3:=hoz.zf 3
    have f4:=hoz.zf 4
    have HQ:=aB hoz
    clear hoz
    refine bM (i:=10) rfl (fun K hK=>?_)
    go_simp
    refine bH hK (HSS.out _ (HX2.out.trans (tn5.below HX2.out.size (fun q hq=>by rw[hq,←HB.out.2.2];exact HX1.out.size)))) ?_
    clear hK K
    intro hH
    refine eU ?_
    clear hH
    go_wp2_with fail
    go_meet
    case rel=>exact kB HX2.out HQ.out (by rw[← HB.out.2.2];exact HX1.out.size) (aD HO.out.1 HB.out.1) (aD HO.out.2.1 HB.out.1) (aD HO.out.2.2.1 HB.out.1) HZ0.out.1.size (fun q hq=>by have:=(HO.out.1.lt q hq).2;have:=HB.out.2.2;omega) (fun q hq=>by have:=(HO.out.2.1.lt q hq).2;have:=HB.out.2.2;omega) (fun q hq=>by have:=(HO.out.2.2.1.lt q hq).2;have:=HB.out.2.2;omega)
  · obtain rfl:=List.mem_singleton.1 hi2
    refine gD rfl (fun K hK=>?_) (by kernel_rfl)
    go_simp
    obtain⟨ob,hob⟩:∃ k,wz.heap.size=k:=⟨_,rfl⟩
    rw[hob]
    obtain⟨wb,hwb⟩:∃ wb,wz.alloc (.cells #[.slice none 0 0,.int .i64 0,.int .i64 0,.slice none 0 0,.slice none 0 0] 35)=wb:=⟨_,rfl⟩
    rw[hwb]
    have hbb:Below wz.heap.size wz wb:=by rw[← hwb];exact(Below.refl _ _).alloc (Nat.le_refl _) _
    have hoz:gG wb ob:=by rw[← hob,←hwb];exact gG.made _
    have HB:=aB (aA hbb (aA hoz hob))
    clear hbb hoz hob hwb
    have HX1:=aB (HZ0.out.1.trans (HB.out.1.mono HZ0.out.1.size))
    refine bH hK (HSS.out _ HX1.out) ?_
    clear hK K
    intro hH
    refine bM (i:=5) rfl (fun K hK=>?_)
    go_simp
    go_at_call 26
    refine(HAP.out _ HX1.out).mono ?_
    rintro r w5 ⟨fa,fc,la,lc,na,nc,rfl,o1,o2,o3,hb⟩
    have HO:=aB (aA o1 (aA o2 (aA o3 hb)))
    clear o1 o2 o3 hb
    have HX2:=aB (HX1.out.trans (HO.out.2.2.2.mono HX1.out.size))
    refine bH hK (HSS.out _ HX2.out) ?_
    clear hK K
    intro hH
    refine bU [[6],[7],[8]] hH ?_
    have hoz:gG w5 ob:=HB.out.2.1.below HO.out.2.2.2
    have z0:=hoz.z0
    have z1:=hoz.z1
    have z2:=hoz.z2
    have z3:=hoz.z3
    have z4:=hoz.z4
    have f0:=hoz.zf 0
    have f1:=hoz.zf 1
    have f2:=hoz.zf 2
    have f3:=hoz.zf 3
    have f4:=hoz.zf 4
    have HQ:=aB hoz
    clear hoz
    refine bM (i:=10) rfl (fun K hK=>?_)
    go_simp
    refine bH hK (HSS.out _ (HX2.out.trans (tn5.below HX2.out.size (fun q hq=>by rw[hq,←HB.out.2.2];exact HZ0.out.1.size)))) ?_
    clear hK K
    intro hH
    refine eU ?_
    clear hH
    go_wp2_with fail
    go_meet
    case rel=>exact kB HX2.out HQ.out (by rw[← HB.out.2.2];exact HZ0.out.1.size) HO.out.1 HO.out.2.1 HO.out.2.2.1 HX1.out.size (fun q hq=>by have:=(HO.out.1.lt q hq).1;have:=HB.out.2.1.lt;omega) (fun q hq=>by have:=(HO.out.2.1.lt q hq).1;have:=HB.out.2.1.lt;omega) (fun q hq=>by have:=(HO.out.2.2.1.lt q hq).1;have:=HB.out.2.1.lt;omega)
 case rest=>
  obtain⟨hbx,ob,fa,fc,la,lc,na,nc,rfl,rfl,hob,ho,o1,o2,o3,n1,n2,n3⟩:=hcut
  have hMc:=HM1.out.stay hbx
  have hmc:=HC1.out.1.below hbx
  have hec:=HC1.out.2.below hbx
  have hxc:StX (fun q=>F q∨q=mm) wc (.agg #[.slice fa t.fs.length fc,.int .i64 t.next,.int .i64 t.log,.slice la t.fl.length lc,.slice na t.ns.length nc]) t:=
   kI.stx (B:=w1.heap.size) ⟨_,_,_,rfl,o1,o2,o3⟩ (fun q hq=>hq.elim (fun hq=>by have:=HLF.out.1 q hq;omega) (fun hq=>by omega))
  have hA:At8 B w0 w wc F F G db mb lb mp mm ob D L dir s t e seq fv lv nv (.slice xa xn xc) (.slice ya yn yc) (.int .i64 e.log) (.slice ma mn mc) (.slice oa on oc) (.slice fa t.fs.length fc) (.slice la t.fl.length lc) (.slice na t.ns.length nc):=
   ⟨hMc,hmc,hec,Tn.ofBelow (HB1.out.trans (hbx.mono HB1.out.size)),fun q e=> .inl e,fun q e=>e,ho,hxc,HE.out.below (HB1.out.trans (hbx.mono HB1.out.size)),HST.out.st.below hbx,fun e=>by have:=HLF.out.1 _ e;omega,fun e=>by have:=HLF.out.1 _ e;have:=HB1.out.size;omega⟩
  obtain⟨tfn,htf⟩:∃ n,t.fs.length=n:=⟨_,rfl⟩
  obtain⟨tln,htl⟩:∃ n,t.fl.length=n:=⟨_,rfl⟩
  obtain⟨tnn,htn⟩:∃ n,t.ns.length=n:=⟨_,rfl⟩
  rw[htf,htl,htn]at hA
  have HA:=aB (aA hA hob)
  have y0:=hmc.c0
  have y1:=hmc.c1
  clear hMc hmc hec hxc hbx ho hob o1 o2 o3 n1 n2 n3 htf htl htn hA
  obtain⟨n,hls'⟩:∃ n,(D.list (dir++⟨#[47,109]⟩)).length=n:=⟨_,rfl⟩
  have HLS:=aB hls'
  have b1:¬ 9223372036854775807<dir.size+2:=by omega
  clear hls'
  go_upto_region 8 with fail
  refine dQ (fun w'=>w'.cell? ⟨mm,0,none⟩=some (.pointer (some ⟨db,0,none⟩))∧w'.cell? ⟨mm,1,none⟩=some (.string dir)) 11 12 ⟨y0,y1⟩ (fun hH=>?_)
  refine bU [[0,1,2,3,9,10],[1,2,3,9,10],[2,3,9,10],[3,9,10],[4,5,6,7,8,9,10],[5,6,7,8,9,10],[6,7,8,9,10],[7,8,9,10],[8,9,10]] hH ?_
  refine bM (i:=9) rfl (fun K hK=>?_)
  go_simp
  go_at_call 23
  refine(cl_list (HA.out.1.fm.ws.d.d.below (Below.refl _ _).drew) HR.out.1 _ HLS.out).mono ?_
  rintro r w8 ⟨l8,k8,rfl,hb8⟩
  have H8:=aB (HA.out.1.below ((Below.refl wc.heap.size wc).drew.trans hb8))
  clear hb8
  refine bH hK ⟨H8.out.fmb.c0,H8.out.fmb.c1⟩ ?_
  clear hK K
  intro hH
  refine bU [[10]] hH ?_
  refine eU ?_
  clear hH y0 y1 b1
  have hsq1:seq≤1000000:=hseq.2
  have hwr:IntKind.i64.wrap (seq+1)=seq+1:=IntWalk.i64_in _ (by omega)
  obtain⟨sn,tn,zn,cn⟩:=fH (seq+1) w (by omega) (by omega)
  have HD:=aB (aA cn (aA tn zn))
  clear cn tn zn
  go_upto_if 39 with fail
  go_cut [] (fun wx=>∃ (F8 G8:Nat→Prop) (D8:Dk) (L8:Lg) (fv8 lv8 nv8:Value),At8 B w0 w wx F F8 G8 db mb lb mp mm ob D8 L8 dir s t e seq fv8 lv8 nv8 (.slice xa xn xc) (.slice ya yn yc) (.int .i64 e.log) (.slice ma mn mc) (.slice oa on oc) (.slice fa tfn fc) (.slice la tln lc) (.slice na tnn nc)∧(∀ r,dK dir D L bb r=jE D8 L8 r)∧∀ M:List KV,M.Perm (eR s.ns e.ns)→mB D8 L8 (eJ (seq+1) {e with ns:=M}))
  case first=>
   by_cases h17:17≤n
   · have z17:(17:Int)≤(n:Int):=by omega
     have hl17:17≤(D.list (dir++tM)).length:=by rw[show(D.list (dir++tM)).length=n from HLS.out];exact h17
     have hP:=HR.out.2.1 hl17
     have hS:=swap_any H8.out.fm HQ4.out.2.1 hseq hdz (by rw[hbb];exact hP)
     rw[hbb]at hS
     obtain⟨xs,hxs⟩:∃ x,dC dir D L bb=x:=⟨_,rfl⟩
     rw[hxs]at hS
     obtain⟨c7,hc7⟩:∃ c,xs.1=c:=⟨_,rfl⟩
     have HS:=aB hS
     have HX:=aB (aA hxs (aA hc7 hl17))
     clear hS hxs hP hl17
     by_cases h7:c7=0
     · subst h7
       go_wp2_with (go_at_call 16;refine HS.out.mono ?_;rintro r v8 ⟨rfl,F8,G8,hm8,ht8,hn8,hg8⟩;rw[hc7]at hm8 ⊢;have H9:=aB (aA hm8 (aA ht8 (aA hn8 hg8)));clear hm8 ht8 hn8 hg8)
       clear hc7
       go_meet
       case rel=>
        have h9m:=H9.out.1
        rw[show decide ((0:Int)=20)=false by decide]at h9m
        obtain⟨fv9,lv9,nv9,q3,q4,q5,q6,q7,hst9⟩:=h9m.st
        have hnmm:¬ w.heap.size=mm:=by omega
        have hobl:=H8.out.fob.lt
        have hobm:¬ ob=mm:=by have:=HA.out.2;have:=HB1.out.size;omega
        have h8t:=H9.out.2.1
        have he8:¬ (F w.heap.size∨w.heap.size=mm):=fun e=>e.elim (fun e=>by have:=HLF.out.1 _ e;omega) hnmm
        have ho8:¬ (F ob∨ob=mm):=fun e=>e.elim H8.out.fno hobm
        have hsz8:=H8.out.ft.size
        have hA9:At8 B w0 w v8 F F8 G8 db mb lb mp mm ob xs.2.1 xs.2.2 dir s t e seq fv9 lv9 nv9 (.slice xa xn xc) (.slice ya yn yc) (.int .i64 e.log) (.slice ma mn mc) (.slice oa on oc) (.slice fa tfn fc) (.slice la tln lc) (.slice na tnn nc):=
         ⟨h9m,⟨h9m.c0,h9m.c1,h9m.c2,q3,q4,q5,q6,q7,h9m.c8,h9m.c9⟩,H8.out.feb.tnH h8t he8,H8.out.ft.trans h8t,fun q e=>(H9.out.2.2.1 q e).imp id (fun e=>by omega),H9.out.2.2.2,H8.out.fob.tnH h8t ho8,
          H8.out.fx.step h8t (fun q _ e=>e) (fun q e=>e.elim (fun e=>(H9.out.2.2.1 q e).imp .inl id) (fun e=> .inl (.inr e))),
          (HEX.out.step (F':=fun q=>F q∨q=mm) (H8.out.ft.trans h8t) (fun q _ e=>e) (fun q e=> .inl e)).ed,hst9.st,fun e=>(H9.out.2.2.1 _ e).elim (fun e=>by have:=HLF.out.1 _ e;omega) (fun e=>by have:=H8.out.feb.lt;omega),fun e=>(H9.out.2.2.1 _ e).elim H8.out.fno (fun e=>by omega)⟩
        have hmc0:∀ r,dK dir D L bb r=jE xs.2.1 xs.2.2 r:=fun r=>by
         unfold dK
         rw[if_pos HX.out.2.2,HX.out.1]
         simp only
         rw[if_neg (by rw[HX.out.2.1];simp)]
        have hly0:∀ M:List KV,M.Perm (eR s.ns e.ns)→mB xs.2.1 xs.2.2 (eJ (seq+1) {e with ns:=M}):=fun M hM=>by
         have:=(HR.out.2.2 M hM).2 HX.out.2.2 (by rw[HX.out.1];exact HX.out.2.1)
         rw[HX.out.1]at this
         exact this
        exact⟨F8,G8,_,_,fv9,lv9,nv9,hA9,hmc0,hly0⟩
     · have s1:(c7 != 0)=true:=by simpa using h7
       go_wp2_with (go_at_call 16;refine HS.out.mono ?_;rintro r v8 ⟨rfl,F8,G8,hm8,ht8,hn8,hg8⟩;rw[hc7];have H9:=aB (aA hm8 (aA ht8 (aA hn8 hg8)));clear hm8 ht8 hn8 hg8)
       go_ret
       refine⟨eR s.ns e.ns,List.Perm.refl _,?_⟩
       have hmx:dK dir D L bb (eJ (seq+1) {e with ns:=eR s.ns e.ns})=xs:=by
        unfold dK
        rw[if_pos HX.out.2.2,HX.out.1]
        simp only
        rw[if_pos (by rw[HX.out.2.1];exact h7)]
       rw[hmx]
       have hsz8:=H8.out.ft.size
       exact⟨by show _=Ending.returned (Value.int .i64 xs.1);rw[hc7];rfl,F8,G8,.inr ⟨by rw[hc7];exact h7,H9.out.1⟩,H8.out.ft.trans H9.out.2.1,fun q e=>(H9.out.2.2.1 q e).imp id (fun e=>by omega),H9.out.2.2.2⟩
   · have z17:¬ (17:Int)≤(n:Int):=by omega
     have hl17:¬ 17≤(D.list (dir++tM)).length:=by rw[show(D.list (dir++tM)).length=n from HLS.out];exact h17
     have hmc0:∀ r,dK dir D L bb r=jE D L r:=fun r=>by
      unfold dK
      rw[if_neg hl17]
     have hly0:∀ M:List KV,M.Perm (eR s.ns e.ns)→mB D L (eJ (seq+1) {e with ns:=M}):=fun M hM=>(HR.out.2.2 M hM).1 hl17
     have HN:=aB (aA hmc0 hly0)
     clear hl17 hmc0 hly0
     go_wp2
     go_meet
     case rel=>exact⟨F,G,D,L,fv,lv,nv,H8.out,HN.out.1,HN.out.2⟩
  case rest=>
   obtain⟨F8,G8,D8,L8,fv8,lv8,nv8,h8,hmc8,hly8⟩:=hcut
   rename World=>v8
   have HA9:=aB h8
   have HMC:=aB hmc8
   have HLY:=aB hly8
   clear h8 hmc8 hly8
   go_upto_region 12 with fail
   have kd:v8.drew.cell? ⟨mm,2,none⟩=some (.pointer (some ⟨lb,0,none⟩))∧v8.drew.cell? ⟨mm,8,none⟩=some (.int .i64 seq)∧v8.drew.cell? ⟨mm,3,none⟩=some fv8∧v8.drew.cell? ⟨mm,4,none⟩=some (.int .i64 s.next)∧v8.drew.cell? ⟨mm,5,none⟩=some (.int .i64 s.log)∧v8.drew.cell? ⟨mm,6,none⟩=some lv8∧v8.drew.cell? ⟨mm,7,none⟩=some nv8∧v8.drew.cell? ⟨w.heap.size,0,none⟩=some (.slice xa xn xc)∧v8.drew.cell? ⟨w.heap.size,1,none⟩=some (.slice ya yn yc)∧v8.drew.cell? ⟨w.heap.size,2,none⟩=some (.int .i64 e.log)∧v8.drew.cell? ⟨w.heap.size,3,none⟩=some (.slice ma mn mc)∧v8.drew.cell? ⟨w.heap.size,4,none⟩=some (.slice oa on oc):=(HA9.out.below (Below.refl _ _).drew).cells
   refine dQ (fun w'=>w'.cell? ⟨mm,2,none⟩=some (.pointer (some ⟨lb,0,none⟩))∧w'.cell? ⟨mm,8,none⟩=some (.int .i64 seq)∧w'.cell? ⟨mm,3,none⟩=some fv8∧w'.cell? ⟨mm,4,none⟩=some (.int .i64 s.next)∧w'.cell? ⟨mm,5,none⟩=some (.int .i64 s.log)∧w'.cell? ⟨mm,6,none⟩=some lv8∧w'.cell? ⟨mm,7,none⟩=some nv8∧w'.cell? ⟨w.heap.size,0,none⟩=some (.slice xa xn xc)∧w'.cell? ⟨w.heap.size,1,none⟩=some (.slice ya yn yc)∧w'.cell? ⟨w.heap.size,2,none⟩=some (.int .i64 e.log)∧w'.cell? ⟨w.heap.size,3,none⟩=some (.slice ma mn mc)∧w'.cell? ⟨w.heap.size,4,none⟩=some (.slice oa on oc)) 19 20 kd (fun hH=>?_)
   have V0:=aB (HA9.out.below (Below.refl _ _).drew)
   clear kd
   refine bU [[0],[1],[2],[3],[4],[5],[6],[7],[8],[10],[11],[12],[13],[14]] hH ?_
   refine bM (i:=9) rfl (fun K hK=>?_)
   go_simp
   go_at_call 45
   refine(HD.out.1 _).mono ?_
   rintro r v1 ⟨rfl,hb0⟩
   have V1:=aB (V0.out.below hb0)
   clear hb0
   refine bH hK V1.out.cells ?_
   clear hK K
   intro hH
   refine bM (i:=15) rfl (fun K hK=>?_)
   go_simp
   go_at_call 47
   refine(few_any (s:=s) V1.out.fsv V1.out.fev (by have:=HQ4.out.2.1.nfew;omega) (by have:=HQ4.out.2.2.2;omega)).mono ?_
   rintro r v2 ⟨ve,M,rfl,hM,hev,hb0⟩
   have V2:=aB (V1.out.below hb0)
   obtain⟨okM,hlz⟩:=HQ4.out.1 M hM
   obtain⟨sl,tl⟩:∃ s,Tx s (eE {e with ns:=M}):=⟨_,rfl⟩
   have zl:sl.size≤90000:=by rw[tl.size];exact hlz
   have b2:¬ 9223372036854775807<sn.size+sl.size:=by have:=HD.out.2.2;omega
   have hsl:(sn++sl).size≤100000:=by rw[ByteArray.size_append];have:=HD.out.2.2;omega
   have hrb:wB++(sn++sl)=eJ (seq+1) {e with ns:=M}:=by
    unfold eJ
    congr 1
    exact HD.out.2.1.add tl
   have HE2:=aB (aA hev (aA okM (aA tl (aA hsl (aA hrb hM)))))
   clear hb0 hev okM tl hsl hrb hM hlz zl
   refine bH hK V2.out.cells ?_
   clear hK K
   intro hH
   refine bM (i:=16) rfl (fun K hK=>?_)
   go_simp
   go_at_call 46
   refine(laid_any HE2.out.1 HE2.out.2.1).mono ?_
   rintro r v3 ⟨rfl,hb0⟩
   rw[← (show sl=⟨(eE {e with ns:=M}).toArray⟩ from HE2.out.2.2.1)]
   have V3:=aB (V2.out.below hb0)
   clear hb0
   refine bH hK V3.out.cells ?_
   clear hK K
   intro hH
   refine bU [[17]] hH ?_
   refine bM (i:=18) rfl (fun K hK=>?_)
   go_simp
   go_at_call 44
   refine(gw_big V3.out.fm.ws (HLY.out M HE2.out.2.2.2.2.2).pre (sn++sl) HE2.out.2.2.2.1).mono ?_
   rw[HE2.out.2.2.2.2.1]
   obtain⟨a4,ha4⟩:∃ a,L8.append D8 (eJ (seq+1) {e with ns:=M})=a:=⟨_,rfl⟩
   obtain⟨c4,hc4⟩:∃ c,a4.1=c:=⟨_,rfl⟩
   intro r v4 hkp
   obtain⟨hr4,G4,F4,hM4,hs4⟩:=V3.out.fm.kept hkp
   rw[ha4,hc4]at hr4
   subst hr4
   rw[ha4]at hM4
   have hly:=HLY.out M HE2.out.2.2.2.2.2
   have hgo:=hly.go
   rw[ha4,hc4]at hgo
   have hml:jE D8 L8 (eJ (seq+1) {e with ns:=M})=if c4≠0 then a4 else((a4.2.2.sync a4.2.1).1,(a4.2.2.sync a4.2.1).2,a4.2.2):=by
    unfold jE
    rw[ha4]
    simp only
    rw[hc4]
   have hmcx:dK dir D L bb (eJ (seq+1) {e with ns:=M})=if c4≠0 then a4 else((a4.2.2.sync a4.2.1).1,(a4.2.2.sync a4.2.1).2,a4.2.2):=(HMC.out _).trans hml
   have hk4:v4.cell? ⟨mm,2,none⟩=some (.pointer (some ⟨lb,0,none⟩))∧v4.cell? ⟨mm,8,none⟩=some (.int .i64 seq)∧v4.cell? ⟨mm,3,none⟩=some fv8∧v4.cell? ⟨mm,4,none⟩=some (.int .i64 s.next)∧v4.cell? ⟨mm,5,none⟩=some (.int .i64 s.log)∧v4.cell? ⟨mm,6,none⟩=some lv8∧v4.cell? ⟨mm,7,none⟩=some nv8∧v4.cell? ⟨w.heap.size,0,none⟩=some (.slice xa xn xc)∧v4.cell? ⟨w.heap.size,1,none⟩=some (.slice ya yn yc)∧v4.cell? ⟨w.heap.size,2,none⟩=some (.int .i64 e.log)∧v4.cell? ⟨w.heap.size,3,none⟩=some (.slice ma mn mc)∧v4.cell? ⟨w.heap.size,4,none⟩=some (.slice oa on oc):=by
    have h1:=V3.out.fmb.tn hs4.t V3.out.fm.nf
    have h2:=V3.out.feb.tnH hs4.t V3.out.fne
    exact⟨h1.c2,h1.c8,h1.c3,h1.c4,h1.c5,h1.c6,h1.c7,h2.and⟩
   have tB:Tn (fun q=>F q∨q=mm) w v4:=V3.out.ft.andThen hs4.t (fun q e=>(V3.out.fn q e).imp .inl id)
   have nB:∀ q,F4 q→F q∨w.heap.size≤q:=fun q e=>(hs4.n q e).elim (V3.out.fn q) (fun e=> .inr (Nat.le_trans V3.out.ft.size e))
   have gB:∀ q,F q→F4 q:=fun q e=>hs4.g q (V3.out.fg q e)
   have ho4:=V3.out.fob.tnH hs4.t V3.out.fno
   have hx4:=V3.out.fx.go hs4
   have hno4:¬ F4 ob:=fun e=>(hs4.n ob e).elim V3.out.fno (fun e=>by have:=V3.out.fob.lt;omega)
   have H4:=aB (aA hM4 (aA tB (aA nB (aA gB (aA ho4 (aA hx4 (aA hno4 (aA hgo (aA hmcx hc4)))))))))
   clear hkp hs4 hly hgo hml hmcx hM4 tB nB gB ho4 hx4 hno4 ha4
   refine bH hK hk4 ?_
   clear hK K
   intro hH
   refine eU ?_
   clear hH b2
   have y2:=hk4.1
   clear hk4
   by_cases hc0:c4=0
   · subst hc0
     have hmx:=H4.out.2.2.2.2.2.2.2.2.1
     rw[if_neg (by simp)]at hmx
     obtain⟨on4,ac4⟩:=H4.out.2.2.2.2.2.2.2.1 rfl
     obtain⟨c5,hc5⟩:∃ c,(a4.2.2.sync a4.2.1).1=c:=⟨_,rfl⟩
     obtain⟨D5,hD5⟩:∃ D5,(a4.2.2.sync a4.2.1).2=D5:=⟨_,rfl⟩
     rw[hc5,hD5]at hmx
     have HS5:=aB (aA hc5 (aA hD5 hmx))
     clear hc5 hD5 hmx hc4
     go_upto_region 15 with(go_at_call 48;refine(w_sync H4.out.1.ws.l H4.out.1.ws.d.d (fun q e=>(H4.out.1.ws.sub q e).2) on4 ac4).mono ?_;rw[HS5.out.1,HS5.out.2.1];rintro r v5 ⟨rfl,hd5,ht5⟩;obtain⟨hM5,hs5⟩:=H4.out.1.disk hd5 ht5;have H5:=aB (aA hM5 (aA (H4.out.2.2.2.2.1.tnH hs5.t H4.out.2.2.2.2.2.2.1) (aA (H4.out.2.2.2.2.2.1.go hs5) (H4.out.2.1.andThen hs5.t (fun q e=>(H4.out.2.2.1 q e).imp .inl id)))));clear hd5 ht5 hs5 hM5)
     clear y2
     by_cases hc50:c5=0
     · subst hc50
       obtain⟨fv5,lv5,nv5,m3,m4,m5,m6,m7,_⟩:=H5.out.1.st
       have m8:=H5.out.1.c8
       have g3:=H5.out.1.fz 3
       have g4:=H5.out.1.fz 4
       have g5:=H5.out.1.fz 5
       have g6:=H5.out.1.fz 6
       have g7:=H5.out.1.fz 7
       have g8:=H5.out.1.fz 8
       have x0:=H5.out.2.1.z0
       have x1:=H5.out.2.1.z1
       have x2:=H5.out.2.1.z2
       have x3:=H5.out.2.1.z3
       have x4:=H5.out.2.1.z4
       have h9:=(H5.out.1.setS H5.out.2.2.1).set8 (seq+1)
       have t9:=H5.out.2.2.2.trans (((((((tn_setS (w:=v5) (b:=mm) (j:=3) (v:= .slice fa tfn fc)).trans (tn_setS (j:=4) (v:= .int .i64 t.next))).trans (tn_setS (j:=5) (v:= .int .i64 t.log))).trans (tn_setS (j:=6) (v:= .slice la tln lc))).trans (tn_setS (j:=7) (v:= .slice na tnn nc))).trans (tn_setS (j:=8) (v:= .int .i64 (seq+1)))).mono (fun q e=>(.inr e:F q∨q=mm)))
       have HC9:=aB (commit_fin (s:=s) (x:=(0,D5,a4.2.2)) h9 rfl t9 H4.out.2.2.1 H4.out.2.2.2.1)
       clear h9 t9
       go_wp2_with (go_at_call 49;refine HC9.out.mono ?_;rintro r wE ⟨rfl,hE⟩;have HE9:=aB hE;clear hE)
       go_ret
       refine⟨M,HE2.out.2.2.2.2.2,?_⟩
       rw[HS5.out.2.2]
       obtain⟨F9,G9,hh9,hr9⟩:=HE9.out
       exact⟨rfl,F9,G9,hh9.elim (fun e=> .inl ⟨rfl,e.2⟩) (fun e=>absurd rfl e.1),hr9⟩
     · have s1:(c5 == 0)=false:=by simpa using hc50
       have HC9:=aB (commit_end (x:=(c5,D5,a4.2.2)) (t:=t) H5.out.1 hc50 H5.out.2.2.2 H4.out.2.2.1 H4.out.2.2.2.1)
       go_wp2_with (go_at_call 49;refine HC9.out.mono ?_;rintro r wE ⟨rfl,hE⟩;have HE9:=aB hE;clear hE)
       go_ret
       refine⟨M,HE2.out.2.2.2.2.2,?_⟩
       rw[HS5.out.2.2]
       exact⟨rfl,HE9.out⟩
   · have s1:(c4 == 0)=false:=by simpa using hc0
     have hmx:=H4.out.2.2.2.2.2.2.2.2.1
     rw[if_pos hc0]at hmx
     have HMX:=aB hmx
     have HC9:=aB (commit_end (x:=a4) (t:=t) H4.out.1 (by rw[hc4];exact hc0) H4.out.2.1 H4.out.2.2.1 H4.out.2.2.2.1)
     rw[hc4]at HC9
     clear hmx
     go_wp2_with (go_at_call 49;refine HC9.out.mono ?_;rintro r wE ⟨rfl,hE⟩;have HE9:=aB hE;clear hE)
     go_ret
     refine⟨M,HE2.out.2.2.2.2.2,?_⟩
     rw[HMX.out]
     exact⟨by show _=Ending.returned (Value.int .i64 a4.1);rw[hc4];rfl,HE9.out⟩
end
end Go.Proofs.YtpfibkgmfapnjaaGreatDoor
