/- Manifest: Commit of an edit that is refused; the calls on a manifest that there is not. -/
import Derived.Test.YtpfibkgmfapnjaaGreatDoorS31
import Derived.Test.YtpfibkgmfapnjaaGreatDoorS13
import Derived.Test.YtpfibkgmfapnjaaGreatDoorS34
set_option linter.unusedSimpArgs false
set_option linter.unusedVariables false
namespace Go.Proofs.YtpfibkgmfapnjaaGreatDoor
section
open Go.RowKit
variable {w w' w0:World} {F F' G G' H:Nat→Prop} {B db mb lb mp mm k n:Nat} {D D':Dk} {L L':Lg} {S:List (Nat×Fl)} {dir dr:ByteArray} {s t:PS} {e:PE} {seq:Int} {stuck:Bool} {v:Value}
set_option maxRecDepth 100000 in
set_option maxHeartbeats 8000000 in
theorem commit_no {ev:Value} {c:Int} (h:MS B w0 w F G db mb lb mp mm D L dir s seq false) (hg:cR s) (he:EdV w ev e) (hq1:e.add.length≤100000) (hq2:e.rem.length≤100000) (hq4:e.ns.length≤100000) (hfl:e.fl.length≤100000) (hap:aO s e=(c,t)) (hc:c≠0):
 Calls Tryz.prog 14 #[.pointer (some ⟨mm,0,none⟩),ev] w fun r w'=>r= .returned (.int .i64 c)∧Below w.heap.size w w':=by
 have HE:=aB he
 obtain⟨xv,yv,mv,ov,rfl,he1,he2,he3,he4⟩:=he
 obtain⟨xa,xc,rfl,_,_⟩:=he1.form
 obtain⟨ya,yc,rfl,_,_⟩:=he2.form
 obtain⟨ma,mc,rfl,_,_⟩:=he3.form
 obtain⟨oa,oc,rfl,_,_⟩:=he4.form
 obtain⟨xn,hxn⟩:∃ n,e.add.length=n:=⟨_,rfl⟩
 obtain⟨yn,hyn⟩:∃ n,e.rem.length=n:=⟨_,rfl⟩
 obtain⟨mn,hmn⟩:∃ n,e.fl.length=n:=⟨_,rfl⟩
 obtain⟨on,hon⟩:∃ n,e.ns.length=n:=⟨_,rfl⟩
 rw[hxn,hyn,hmn,hon]at HE ⊢
 clear he1 he2 he3 he4
 obtain⟨w1,hw1⟩:∃ w1,w.alloc (.cells #[.slice xa xn xc,.slice ya yn yc,.int .i64 e.log,.slice ma mn mc,.slice oa on oc] 56)=w1:=⟨_,rfl⟩
 have hb1:Below w.heap.size w w1:=by rw[← hw1];exact(Below.refl _ _).alloc (Nat.le_refl _) _
 have hz1:w1.heap.size=w.heap.size+1:=by rw[← hw1];simp
 have he1:eH w1 w.heap.size (.slice xa xn xc) (.slice ya yn yc) (.int .i64 e.log) (.slice ma mn mc) (.slice oa on oc):=by
  rw[← hw1]
  refine⟨?_,?_,?_,?_,?_,fun j=>?_⟩
  all_goals simp[go_sem]
 have hM1:=h.stay hb1
 obtain⟨fv,lv,nv,h3,h4,h5,h6,h7,hst⟩:=hM1.st
 have hmb:MmB w1 mm db lb dir fv (.int .i64 s.next) (.int .i64 s.log) lv nv seq false:=⟨hM1.c0,hM1.c1,hM1.c2,h3,h4,h5,h6,h7,hM1.c8,hM1.c9⟩
 have hap1:∀ y,Below w1.heap.size w1 y→Calls Tryz.prog 26 #[.agg #[fv,.int .i64 s.next,.int .i64 s.log,lv,nv],.agg #[.slice xa xn xc,.slice ya yn yc,.int .i64 e.log,.slice ma mn mc,.slice oa on oc]] y (AqAns t c y):=fun y hy=>by
  have:=apply_aq (hst.st.below hy) ((HE.out.below hb1).below hy) hg hq1 hq2 hfl hq4
  rw[hap]at this
  exact this
 have HAP:=aB hap1
 have hno:=jD hM1.c0
 have HNO:=aB hno
 have HM1:=aB hM1
 have HC1:=aB (aA hmb he1)
 have HST:=aB hst
 have HB1:=aB hb1
 have c9:=hM1.c9
 have gm:=h.nf
 have hltF:=h.ltF
 have HLF:=aB (aA hltF gm)
 have hml:=h.lt
 clear hap1 hno hM1 hmb he1 hst hb1 hg hap h3 h4 h5 h6 h7 h hq1 hq2 hq4 hxn hyn hmn hon hfl hltF gm
 go_enter Tryz.func14,Tryz.ntmps14
 go_upto_region 5 with(go_at_call 43;go_loud (refine HNO.out.mono ?_);rintro r w2 ⟨rfl,rfl⟩)
 clear c9 hw1
 go_cut [5,6] (fun y5 y6 wx=>CmAns t c w1 y5 y6 wx)
 case first=>
  have hS:∀ w',Below w1.heap.size w1 w'→(w'.cell? ⟨mm,3,none⟩=some fv∧w'.cell? ⟨mm,4,none⟩=some (.int .i64 s.next)∧w'.cell? ⟨mm,5,none⟩=some (.int .i64 s.log)∧w'.cell? ⟨mm,6,none⟩=some lv∧w'.cell? ⟨mm,7,none⟩=some nv∧w'.cell? ⟨w.heap.size,0,none⟩=some (.slice xa xn xc)∧w'.cell? ⟨w.heap.size,1,none⟩=some (.slice ya yn yc)∧w'.cell? ⟨w.heap.size,2,none⟩=some (.int .i64 e.log)∧w'.cell? ⟨w.heap.size,3,none⟩=some (.slice ma mn mc)∧w'.cell? ⟨w.heap.size,4,none⟩=some (.slice oa on oc)):=fun w' hy=>⟨(HC1.out.1.below hy).c3,(HC1.out.1.below hy).c4,(HC1.out.1.below hy).c5,(HC1.out.1.below hy).c6,(HC1.out.1.below hy).c7,(HC1.out.2.below hy).and⟩
  have HSS:=aB hS
  clear hS
  refine dQ (fun w'=>w'.cell? ⟨mm,3,none⟩=some fv∧w'.cell? ⟨mm,4,none⟩=some (.int .i64 s.next)∧w'.cell? ⟨mm,5,none⟩=some (.int .i64 s.log)∧w'.cell? ⟨mm,6,none⟩=some lv∧w'.cell? ⟨mm,7,none⟩=some nv∧w'.cell? ⟨w.heap.size,0,none⟩=some (.slice xa xn xc)∧w'.cell? ⟨w.heap.size,1,none⟩=some (.slice ya yn yc)∧w'.cell? ⟨w.heap.size,2,none⟩=some (.int .i64 e.log)∧w'.cell? ⟨w.heap.size,3,none⟩=some (.slice ma mn mc)∧w'.cell? ⟨w.heap.size,4,none⟩=some (.slice oa on oc)) 11 12 (HSS.out _ (Below.refl _ _).drew) (fun hH=>?_)
  refine bU [[0],[1],[2],[3],[4]] hH ?_
  obtain⟨wz,hwz⟩:∃ wz,w1.drew=wz:=⟨_,rfl⟩
  have hz0:Below w1.heap.size w1 wz:=by rw[← hwz];exact(Below.refl _ _).drew
  have hz1:wz.heap.size=w1.heap.size:=by rw[← hwz];rfl
  rw[hwz]at hH ⊢
  have HZ0:=aB (aA hz0 hz1)
  clear hwz hz0 hz1
  refine dX (rs:=[5,9]) (by kernel_rfl) (by simp) (fun i hi=>?_)
  rcases List.mem_cons.1 hi with rfl|hi2
  · refine gD rfl (fun K hK=>?_) (by kernel_rfl)
    go_simp
    go_at_call 26
    refine(HAP.out _ HZ0.out.1).mono ?_
    rintro r w5 ⟨fa,fc,la,lc,na,nc,rfl,o1,o2,o3,hb⟩
    have HO:=aB (aA o1 (aA o2 (aA o3 hb)))
    clear o1 o2 o3 hb
    have HX1:=aB (HZ0.out.1.trans (HO.out.2.2.2.mono HZ0.out.1.size))
    refine bH hK (HSS.out _ HX1.out) ?_
    clear hK K
    intro hH
    refine bU [[6],[7],[8]] hH ?_
    refine bM (i:=9) rfl (fun K hK=>?_)
    go_simp
    obtain⟨ob,hob⟩:∃ k,w5.heap.size=k:=⟨_,rfl⟩
    rw[hob]
    obtain⟨wb,hwb⟩:∃ wb,w5.alloc (.cells #[.slice none 0 0,.int .i64 0,.int .i64 0,.slice none 0 0,.slice none 0 0] 35)=wb:=⟨_,rfl⟩
    rw[hwb]
    have hbb:Below w5.heap.size w5 wb:=by rw[← hwb];exact(Below.refl _ _).alloc (Nat.le_refl _) _
    have hoz:gG wb ob:=by rw[← hob,←hwb];exact gG.made _
    have HB:=aB (aA hbb (aA hoz hob))
    clear hbb hoz hob hwb
    have HX2:=aB (HX1.out.trans (HB.out.1.mono HX1.out.size))
    refine bH hK (HSS.out _ HX2.out) ?_
    clear hK K
    intro hH
    have hoz:gG wb ob:=HB.out.2.1
    have z0:=hoz.z0
    have z1:=hoz.z1
    have z2:=hoz.z2
    have z3:=hoz.z3
    have z4:=hoz.z4
    have f0:=hoz.zf 0
    have f1:=hoz.zf 1
    have f2:=hoz.zf 2
    have f3:=hoz.zf 3
    have f4:=hoz.zf 4
    have HQ:=aB hoz
    clear hoz
    refine bM (i:=10) rfl (fun K hK=>?_)
    go_simp
    refine bH hK (HSS.out _ (HX2.out.trans (tn5.below HX2.out.size (fun q hq=>by rw[hq,←HB.out.2.2];exact HX1.out.size)))) ?_
    clear hK K
    intro hH
    refine eU ?_
    clear hH
    go_wp2_with fail
    go_meet
    case rel=>exact kB HX2.out HQ.out (by rw[← HB.out.2.2];exact HX1.out.size) (aD HO.out.1 HB.out.1) (aD HO.out.2.1 HB.out.1) (aD HO.out.2.2.1 HB.out.1) HZ0.out.1.size (fun q hq=>by have:=(HO.out.1.lt q hq).2;have:=HB.out.2.2;omega) (fun q hq=>by have:=(HO.out.2.1.lt q hq).2;have:=HB.out.2.2;omega) (fun q hq=>by have:=(HO.out.2.2.1.lt q hq).2;have:=HB.out.2.2;omega)
  · obtain rfl:=List.mem_singleton.1 hi2
    refine gD rfl (fun K hK=>?_) (by kernel_rfl)
    go_simp
    obtain⟨ob,hob⟩:∃ k,wz.heap.size=k:=⟨_,rfl⟩
    rw[hob]
    obtain⟨wb,hwb⟩:∃ wb,wz.alloc (.cells #[.slice none 0 0,.int .i64 0,.int .i64 0,.slice none 0 0,.slice none 0 0] 35)=wb:=⟨_,rfl⟩
    rw[hwb]
    have hbb:Below wz.heap.size wz wb:=by rw[← hwb];exact(Below.refl _ _).alloc (Nat.le_refl _) _
    have hoz:gG wb ob:=by rw[← hob,←hwb];exact gG.made _
    have HB:=aB (aA hbb (aA hoz hob))
    clear hbb hoz hob hwb
    have HX1:=aB (HZ0.out.1.trans (HB.out.1.mono HZ0.out.1.size))
    refine bH hK (HSS.out _ HX1.out) ?_
    clear hK K
    intro hH
    refine bM (i:=5) rfl (fun K hK=>?_)
    go_simp
    go_at_call 26
    refine(HAP.out _ HX1.out).mono ?_
    rintro r w5 ⟨fa,fc,la,lc,na,nc,rfl,o1,o2,o3,hb⟩
    have HO:=aB (aA o1 (aA o2 (aA o3 hb)))
    clear o1 o2 o3 hb
    have HX2:=aB (HX1.out.trans (HO.out.2.2.2.mono HX1.out.size))
    refine bH hK (HSS.out _ HX2.out) ?_
    clear hK K
    intro hH
    refine bU [[6],[7],[8]] hH ?_
    have hoz:gG w5 ob:=HB.out.2.1.below HO.out.2.2.2
    have z0:=hoz.z0
    have z1:=hoz.z1
    have z2:=hoz.z2
    have z3:=hoz.z3
    have z4:=hoz.z4
    have f0:=hoz.zf 0
    have f1:=hoz.zf 1
    have f2:=hoz.zf 2
    have f3:=hoz.zf 3
    have f4:=hoz.zf 4
    have HQ:=aB hoz
    clear hoz
    refine bM (i:=10) rfl (fun K hK=>?_)
    go_simp
    refine bH hK (HSS.out _ (HX2.out.trans (tn5.below HX2.out.size (fun q hq=>by rw[hq,←HB.out.2.2];exact HZ0.out.1.size)))) ?_
    clear hK K
    intro hH
    refine eU ?_
    clear hH
    go_wp2_with fail
    go_meet
    case rel=>exact kB HX2.out HQ.out (by rw[← HB.out.2.2];exact HZ0.out.1.size) HO.out.1 HO.out.2.1 HO.out.2.2.1 HX1.out.size (fun q hq=>by have:=(HO.out.1.lt q hq).1;have:=HB.out.2.1.lt;omega) (fun q hq=>by have:=(HO.out.2.1.lt q hq).1;have:=HB.out.2.1.lt;omega) (fun q hq=>by have:=(HO.out.2.2.1.lt q hq).1;have:=HB.out.2.1.lt;omega)
 case rest=>
  obtain⟨hbx,ob,fa,fc,la,lc,na,nc,rfl,rfl,hob,ho,o1,o2,o3,n1,n2,n3⟩:=hcut
  have HX:=aB (HB1.out.trans (hbx.mono HB1.out.size))
  have t0:(c != 0)=true:=bne_iff_ne.2 hc
  clear hbx hob ho o1 o2 o3 n1 n2 n3
  go_wp2
  go_ret
  exact⟨rfl,HX.out⟩
end
section
open Go.RowKit
variable {w w' w0:World} {F F' G G' H:Nat→Prop} {B db mb lb mp mm k n:Nat} {D D':Dk} {L L':Lg} {S:List (Nat×Fl)} {dir dr:ByteArray} {s t:PS} {e:PE} {seq:Int} {stuck:Bool} {v:Value}
theorem MS.set4 (h:MS B w0 w F G db mb lb mp mm D L dir s seq stuck) (n:Int):MS B w0 (w.setCell ⟨mm,4,none⟩ (.int .i64 n)) F G db mb lb mp mm D L dir {s with next:=n} seq stuck:=by
 have t:Tn (fun q=>q=mm) w (w.setCell ⟨mm,4,none⟩ (.int .i64 n)):=tn_setS
 obtain⟨fv,lv,nv,h3,h4,h5,h6,h7,fv',lv',nv',e,q1,q2,q3⟩:=h.st
 simp only[Value.agg.injEq,Array.mk.injEq,List.cons.injEq,true_and,and_true]at e
 obtain⟨rfl,rfl,rfl⟩:=e
 have hs':StX (fun q=>F q∨q=mm) w (.agg #[fv,.int .i64 n,.int .i64 s.log,lv,nv]) {s with next:=n}:=⟨fv,lv,nv,rfl,q1,q2,q3⟩
 exact⟨h.wsm t,aC h.c0 (by decide),aC h.c1 (by decide),aC h.c2 (by decide),⟨fv,lv,nv,aC h3 (by decide),World.cell?_setCell_same _ _ _ h4,aC h5 (by decide),aC h6 (by decide),aC h7 (by decide),hs'.step t (fun q _ e=> .inr e) (fun q e=> .inl e)⟩,aC h.c8 (by decide),aC h.c9 (by decide),fun j=>by rw[World.frozen?_setCell];exact h.fz j,h.nf,h.new,h.nG,h.n2⟩
theorem MS.aside (h:MS B w0 w F G db mb lb mp mm D L dir s seq stuck) (hw:WS B w0 w' (fun q=>F q∨q=mm) G db mb lb mp D L) (ht:Tn H w w') (hm:¬ H mm) (hs:s.fs=[]∧s.fl=[]∧s.ns=[]):MS B w0 w' F G db mb lb mp mm D L dir s seq stuck:=by
 obtain⟨fv,lv,nv,h3,h4,h5,h6,h7,fv',lv',nv',e,q1,q2,q3⟩:=h.st
 have re:∀ {α:Type} {c:α→List Value} {k:Nat} {x:Value} {l:List α},kE (fun q=>F q∨q=mm) c k w x l→l=[]→kE (fun q=>F q∨q=mm) c k w' x l:=fun h hl=>by
  obtain⟨a,c,h1,h2,h3,h4,_⟩:=h
  exact⟨a,c,h1,h2,h3,h4,.inl hl⟩
 exact⟨hw,ht.cell h.c0 hm,ht.cell h.c1 hm,ht.cell h.c2 hm,⟨fv,lv,nv,ht.cell h3 hm,ht.cell h4 hm,ht.cell h5 hm,ht.cell h6 hm,ht.cell h7 hm,fv',lv',nv',e,re q1 hs.1,re q2 hs.2.1,re q3 hs.2.2⟩,ht.cell h.c8 hm,ht.cell h.c9 hm,fun j=>(ht.frozen (p:=⟨mm,j,none⟩) h.lt hm).trans (h.fz j),h.nf,h.new,h.nG,h.n2⟩
theorem mloaded_idle (a:Nat) (w:World):
 CallsD Tryz.prog 145 #[.pointer (some ⟨a,0,none⟩)] .returning w fun e u' w'=>e= .returned (.tuple #[])∧u'= .returning∧w'=w:=by
 refine callsD_of_wpS Tryz.func145 rfl fun c₀ cs hu=>?_
 apply wpS_seq
 apply wpS_region
 simp[wpOpsS,go_sem,recoverD,hu,Tryz.ntmps145,Exit.thenS]
 refine wpS_of_wp ?_
 simp only[List.replicate,Array.replicate,List.append_toArray,List.setIfInBounds_toArray,List.set_cons_zero,List.set_cons_succ,List.cons_append,List.nil_append]
 go_wp2
 refine⟨rfl,.returning,?_,_,results_none rfl _ _ _,rfl,rfl,rfl⟩
 cases c₀
 simp_all
end
section
open Go.RowKit
variable {w w' w0:World} {F F' G G' H:Nat→Prop} {B db mb lb mp mm k n:Nat} {D D':Dk} {L L':Lg} {S:List (Nat×Fl)} {dir dr:ByteArray} {s t:PS} {e:PE} {seq:Int} {stuck:Bool} {v:Value}
theorem MS.made (h:WS B w0 w F G db mb lb mp D L) (dir:ByteArray):MS B w0 (w.alloc (.cells #[.pointer (some ⟨db,0,none⟩),.string dir,.pointer (some ⟨lb,0,none⟩),.slice none 0 0,.int .i64 0,.int .i64 0,.slice none 0 0,.slice none 0 0,.int .i64 0,.bool false] 90)) F G db mb lb mp w.heap.size D L dir s00 0 false:=by
 have hb:Below w.heap.size w _:=(Below.refl _ _).alloc (Nat.le_refl _) (.cells #[.pointer (some ⟨db,0,none⟩),.string dir,.pointer (some ⟨lb,0,none⟩),.slice none 0 0,.int .i64 0,.int .i64 0,.slice none 0 0,.slice none 0 0,.int .i64 0,.bool false] 90)
 have hlt:=h.d.d.lt
 refine⟨⟨⟨h.d.d.more (fun q e=> .inl e) (fun q e=>e.imp id (fun e=>by omega)) (fun q e=>e.elim (fun e=>Nat.lt_of_lt_of_le (hlt q e) hb.size) (fun e=>by rw[e];simp)) hb,fun q e=>e.elim (h.d.new q) (fun e=>by rw[e];exact h.d.hz),h.d.b.trans (hb.mono h.d.hz),Nat.le_trans h.d.hz hb.size⟩,h.l.below hb,fun q e=>⟨.inl (h.sub q e).1,(h.sub q e).2⟩⟩,by simp[go_sem],by simp[go_sem],by simp[go_sem],⟨.slice none 0 0,.slice none 0 0,.slice none 0 0,by simp[go_sem],by simp[go_sem,s00],by simp[go_sem,s00],by simp[go_sem],by simp[go_sem],.slice none 0 0,.slice none 0 0,.slice none 0 0,rfl,?_,?_,?_⟩,by simp[go_sem],by simp[go_sem],fun j=>by simp[go_sem],fun e=>by have:=hlt _ e;omega,h.d.hz,fun e=>by have:=hlt _ (h.sub _ e).1;omega,fun e=>by have:=hlt _ (h.d.dk2 _ e);omega⟩
 all_goals exact⟨none,0,rfl,Nat.le_refl _,by omega,fun _=>rfl,.inl rfl⟩
abbrev tM:ByteArray:=⟨#[47,109]⟩
abbrev tSnap:ByteArray:=⟨#[47,109,115,110,97,112]⟩
theorem dirN_nm {dir t:ByteArray} (h:dG dir=true) (hs:dir.size≤30) (ht:t.size≤6) (ho:t.data.toList.all okc=true):dG (dir++t)=true:=by
 obtain⟨h1,h2,h3⟩:=lL.1 h
 refine lL.2 ⟨by rw[ByteArray.size_append];omega,by rw[ByteArray.size_append];omega,?_⟩
 rw[ByteArray.data_append,Array.toList_append,List.all_append,h3,ho]
 rfl
end
section
open Go.Lib
variable {dir dm s t r b:ByteArray} {m:Fm} {v u:Fl} {D D':Dk} {L L':Lg} {S S':List (Nat×Fl)} {q:Int} {k:Nat}
theorem any_filter {q:ByteArray→Bool} (h:q s=true):∀ m:Fm,(m.filter (fun p=>q p.1)).any (fun p=>decide (p.1=s))=m.any (fun p=>decide (p.1=s))
 |[]=>rfl
 |x::m=>by
  have ih:=any_filter h m
  rw[List.filter_cons]
  by_cases hx:q x.1=true
  · rw[if_pos hx,List.any_cons,List.any_cons,ih]
  · rw[if_neg hx,List.any_cons,ih]
    have hne:¬ x.1=s:=fun e=>hx (by rw[e];exact h)
    simp[hne]
theorem setL_filter {q:ByteArray→Bool} (h:q s=true):(aG m s v).filter (fun p=>q p.1)=aG (m.filter (fun p=>q p.1)) s v:=by
 unfold aG
 rw[any_filter h]
 split
 · exact cW (q:=q) (set_key s v) m
 · rw[List.filter_append]
   simp[h]
theorem setL_filter_no {q:ByteArray→Bool} (h:q s=false):(aG m s v).filter (fun p=>q p.1)=m.filter (fun p=>q p.1):=by
 unfold aG
 split
 · refine Eq.trans (cW (q:=q) (set_key s v) m) (map_id_of (fun p hp=>?_))
   have hp2:=(List.mem_filter.1 hp).2
   have hne:¬ p.1=s:=fun e=>by rw[e,h]at hp2;cases hp2
   rw[if_neg hne]
 · rw[List.filter_append]
   simp[h]
theorem delL_filter {q:ByteArray→Bool}:(aW m s).filter (fun p=>q p.1)=aW (m.filter (fun p=>q p.1)) s:=by
 unfold aW
 rw[List.filter_filter,List.filter_filter]
 exact List.filter_congr (fun p _=>Bool.and_comm _ _)
theorem delL_filter_no {q:ByteArray→Bool} (h:q s=false):(aW m s).filter (fun p=>q p.1)=m.filter (fun p=>q p.1):=by
 unfold aW
 rw[List.filter_filter]
 refine List.filter_congr (fun p _=>?_)
 by_cases e:p.1=s
 · rw[e,h];rfl
 · simp[e]
theorem rst_set (h:iO dm s=false):bX dm (aG m s v)=aG (bX dm m) s v:=setL_filter (q:=fun x=> !iO dm x) (by rw[h];rfl)
theorem log_set (h:iO dm s=false):eL dm (aG m s v)=eL dm m:=setL_filter_no (q:=iO dm) h
theorem rst_del:bX dm (aW m s)=aW (bX dm m) s:=delL_filter (q:=fun x=> !iO dm x)
theorem log_del (h:iO dm s=false):eL dm (aW m s)=eL dm m:=delL_filter_no (q:=iO dm) h
abbrev tNew:ByteArray:=⟨#[47,109,110,101,119]⟩
def bP (dir:ByteArray):ByteArray:=dir++tSnap
def bY (dir:ByteArray):ByteArray:=dir++tNew
theorem dJ (a b:ByteArray):(a++b).data.toList=a.data.toList++b.data.toList:=by simp[ByteArray.data_append]
theorem ba_app_ne {x y:ByteArray} (h:x.data.toList≠y.data.toList):dir++x≠dir++y:=fun e=>by
 have:=congrArg (fun s:ByteArray=>s.data.toList) e
 simp only[dJ]at this
 exact h (List.append_cancel_left this)
theorem snap_ne:bY dir≠bP dir:=ba_app_ne (by decide)
theorem not_isL {x:ByteArray} (h1:([47,109,47,119]:List UInt8).isPrefixOf x.data.toList=false) (h2:x.data.toList≠[47,109,47,109,101,110,100]):iO (dir++tM) (dir++x)=false:=by
 unfold iO
 have e1:((dir++tM)++tW).data.toList=dir.data.toList++[47,109,47,119]:=by rw[dJ,dJ,List.append_assoc];rfl
 have e2:bR (dir++tM)≠dir++x:=by
  intro e
  have h3:=congrArg (fun s:ByteArray=>s.data.toList) e
  have e3:(bR (dir++tM)).data.toList=dir.data.toList++[47,109,47,109,101,110,100]:=by unfold bR;rw[dJ,dJ,List.append_assoc];rfl
  simp only[e3,dJ]at h3
  exact h2 (List.append_cancel_left h3).symm
 rw[Bool.or_eq_false_iff]
 refine⟨?_,decide_eq_false (fun e=>e2 e.symm)⟩
 rw[e1,dJ]
 cases hp:(dir.data.toList++[47,109,47,119]).isPrefixOf (dir.data.toList++x.data.toList)with
 |false=>rfl
 |true=>
  rw[List.isPrefixOf_iff_prefix,List.prefix_append_right_inj,←List.isPrefixOf_iff_prefix,h1]at hp
  cases hp
theorem snap_rst:iO (dir++tM) (bP dir)=false:=not_isL (by decide) (by decide)
theorem new_rst:iO (dir++tM) (bY dir)=false:=not_isL (by decide) (by decide)
theorem snap_nm (h:dG dir=true) (hs:dir.size≤30):dG (bP dir)=true:=dirN_nm h hs (by decide) (by decide)
theorem new_nm (h:dG dir=true) (hs:dir.size≤30):dG (bY dir)=true:=dirN_nm h hs (by decide) (by decide)
structure dV (dir:ByteArray) (X:Fm) (b z:Option Fl):Prop where
 nd:(X.map (·.1)).Nodup
 keys:∀ p∈X,p.1=bP dir∨p.1=bY dir
 snap:aH X (bP dir)=b
 fresh:aH X (bY dir)=z
variable {X:Fm} {bo zo:Option Fl}
theorem dV.nil:dV dir [] none none:=⟨by simp,fun p hp=>by simp at hp,rfl,rfl⟩
theorem dV.len (h:dV dir X bo zo):X.length≤2:=by
 match X,h.nd,h.keys with
 |[],_,_=>simp
 |[_],_,_=>simp
 |[_,_],_,_=>simp
 |x::y::z::X,hn,hk=>
  exfalso
  have hx:=hk x (by simp)
  have hy:=hk y (by simp)
  have hz:=hk z (by simp)
  simp only[List.map_cons,List.nodup_cons,List.mem_cons,not_or]at hn
  obtain⟨⟨n1,n2,_⟩,⟨n3,_⟩,_⟩:=hn
  rcases hx with hx|hx<;>rcases hy with hy|hy<;>rcases hz with hz|hz<;>simp_all
theorem dV.setNew (h:dV dir X bo zo) (v:Fl):dV dir (aG X (bY dir) v) bo (some v):=by
 refine⟨lG h.nd _ _,fun p hp=>?_,?_,?_⟩
 · rcases fC hp with rfl|hp
   · exact .inr rfl
   · exact h.keys p hp
 · rw[jU,if_neg snap_ne];exact h.snap
 · rw[jU,if_pos rfl]
theorem dV.setSnap (h:dV dir X bo zo) (v:Fl):dV dir (aG X (bP dir) v) (some v) zo:=by
 refine⟨lG h.nd _ _,fun p hp=>?_,?_,?_⟩
 · rcases fC hp with rfl|hp
   · exact .inl rfl
   · exact h.keys p hp
 · rw[jU,if_pos rfl]
 · rw[jU,if_neg (fun e=>snap_ne e.symm)];exact h.fresh
theorem dV.delNew (h:dV dir X bo zo):dV dir (aW X (bY dir)) bo none:=by
 refine⟨delL_nd h.nd _,fun p hp=>h.keys p (gW hp),?_,?_⟩
 · rw[get_del,if_neg snap_ne];exact h.snap
 · rw[get_del,if_pos rfl]
def fQ (D:Dk) (n:ByteArray) (c:Int):Int×Dk:=if c=20 then(20,D)else if(D.remove n).1=20 then(20,(D.remove n).2)else(c,(D.remove n).2)
def mwr (D:Dk) (n t b:ByteArray):Int×Dk:=
 let a:=D.remove n
 if a.1≠0∧a.1≠22 then a else
 let c:=a.2.create n
 if c.1≠0 then fQ c.2 n c.1 else
 let d:=c.2.app n b
 if d.1≠0 then fQ d.2 n d.1 else
 let e:=d.2.sync n
 if e.1≠0 then fQ e.2 n e.1 else
 let f:=e.2.rename n t
 if f.1≠0 then fQ f.2 n f.1 else f
def dC (dir:ByteArray) (D:Dk) (L:Lg) (b:ByteArray):Int×Dk×Lg:=
 let r:=L.rotate D
 if r.1≠0 then r else
 let x:=mwr r.2.1 (bY dir) (bP dir) b
 if x.1≠0 then(x.1,x.2,r.2.2)else r.2.2.drop x.2 (r.2.2.last+1)
def jE (D:Dk) (L:Lg) (r:ByteArray):Int×Dk×Lg:=
 let a:=L.append D r
 if a.1≠0 then a else((a.2.2.sync a.2.1).1,(a.2.2.sync a.2.1).2,a.2.2)
def dK (dir:ByteArray) (D:Dk) (L:Lg) (b r:ByteArray):Int×Dk×Lg:=
 if 17≤(D.list (dir++tM)).length then
  let a:=dC dir D L b
  if a.1≠0 then a else jE a.2.1 a.2.2 r
 else jE D L r
structure Rs (dir:ByteArray) (D:Dk) (S:List (Nat×Fl)) (k:Nat) (bo zo:Option Fl):Prop where
 fz:D.fuse=none
 on:D.on=true
 acts:D.acts=k
 log:eL (dir++tM) D.m=aY (dir++tM) S none
 ok:dV dir (bX (dir++tM) D.m) bo zo
theorem eG.rs (o:eG (dir++tM) D L S q k) (h:dV dir (bX (dir++tM) D.m) bo zo):Rs dir D S k bo zo:=⟨o.fz,o.on,o.acts,o.m,h⟩
theorem Rs.lg (h:Rs dir D S k bo zo) (hr:jK (dir++tM) 4096 L S) (hq:D.quota<0∨(used (bX (dir++tM) D.m):Int)≤D.quota):eG (dir++tM) D L S (if D.quota<0 then D.quota else D.quota - (used (bX (dir++tM) D.m):Int)) k:=by
 refine⟨h.fz,hq,h.on,?_,hr⟩
 unfold Dk.logP dE
 rw[h.log,h.fz,h.on,h.acts]
theorem Rs.getS (h:Rs dir D S k bo zo):aH D.m (bP dir)=bo:=by rw[← getL_rstM (dir:=dir++tM) snap_rst];exact h.ok.snap
theorem Rs.getN (h:Rs dir D S k bo zo):aH D.m (bY dir)=zo:=by rw[← getL_rstM (dir:=dir++tM) new_rst];exact h.ok.fresh
theorem Rs.len (h:Rs dir D S k bo zo):D.m.length≤S.length+2:=by
 rw[split_len (dir++tM) D.m,h.log]
 have:=h.ok.len
 unfold aY
 simp
 omega
theorem Rs.asked (h:Rs dir D S k bo zo) (hs:dG s=true):D.asked [s]=0:=by
 unfold Dk.asked
 simp[h.on,hs]
theorem Rs.asked2 (h:Rs dir D S k bo zo) (hs:dG s=true) (ht:dG t=true):D.asked [s,t]=0:=by
 unfold Dk.asked
 simp[h.on,hs,ht]
theorem Rs.act (h:Rs dir D S k bo zo) (f:Fm→Fm) {bo' zo':Option Fl} (h1:eL (dir++tM) (f D.m)=eL (dir++tM) D.m) (h2:dV dir (bX (dir++tM) (f D.m)) bo' zo'):
 D.act f=(0,{D with m:=f D.m,acts:=D.acts+1})∧Rs dir {D with m:=f D.m,acts:=D.acts+1} S (k+1) bo' zo':=
 ⟨gY h.fz f,h.fz,h.on,by show D.acts+1=_;rw[h.acts],h1.trans h.log,h2⟩
section
variable (hd:dG dir=true) (hd30:dir.size≤30)
include hd hd30
theorem Rs.remove (h:Rs dir D S k bo zo):((D.remove (bY dir)).1=0∨(D.remove (bY dir)).1=22)∧(zo.isSome=true→(D.remove (bY dir)).1=0)∧(D.remove (bY dir)).2.quota=D.quota∧bX (dir++tM) (D.remove (bY dir)).2.m=aW (bX (dir++tM) D.m) (bY dir)∧∃ k',k'≤k+1∧Rs dir (D.remove (bY dir)).2 S k' bo none:=by
 unfold Dk.remove
 rw[h.asked (new_nm hd hd30),if_neg (by decide),h.getN]
 cases zo with
 |none=>
  simp only[Option.isSome_none]
  refine⟨.inr (by trivial),fun e=>by simp at e,by trivial,?_,k,Nat.le_succ _,h⟩
  exact(delL_none (fun p hp e=>by
   have:=List.mem_map_of_mem (f:=(·.1)) hp
   rw[e]at this
   have hn:=h.ok.fresh
   have:(aH (bX (dir++tM) D.m) (bY dir)).isSome=true:=by
    unfold aH
    rw[Option.isSome_map,List.find?_isSome]
    exact⟨p,hp,by simp[e]⟩
   rw[hn]at this
   simp at this)).symm
 |some z=>
  simp only[Option.isSome_some,Bool.not_true]
  obtain⟨h1,h2⟩:=h.act (fun m=>aW m (bY dir)) (log_del new_rst) (by rw[rst_del];exact h.ok.delNew)
  simp only[Bool.false_eq_true,if_false,h1]
  refine⟨.inl (by trivial),fun _=>by trivial,by trivial,rst_del,k+1,Nat.le_refl _,h2⟩
theorem Rs.create (h:Rs dir D S k bo none) (hS:S.length+2<20000):D.create (bY dir)=(0,{D with m:=aG D.m (bY dir) ⟨ByteArray.empty,0⟩,acts:=D.acts+1})∧Rs dir {D with m:=aG D.m (bY dir) ⟨ByteArray.empty,0⟩,acts:=D.acts+1} S (k+1) bo (some ⟨ByteArray.empty,0⟩):=by
 have hl:=h.len
 unfold Dk.create
 rw[h.asked (new_nm hd hd30),if_neg (by decide),h.getN]
 simp only[Option.isSome_none,Bool.false_eq_true,if_false]
 rw[if_neg (by omega)]
 exact h.act _ (log_set new_rst) (by rw[rst_set new_rst];exact h.ok.setNew _)
theorem Rs.app (h:Rs dir D S k bo (some v)) (hb:v.data.size+b.size≤1048576):
 (D.app (bY dir) b=(24,D)∧0≤D.quota)∨
 (D.app (bY dir) b=(0,{D with m:=aG D.m (bY dir) ⟨v.data++b,v.syn⟩,acts:=D.acts+1})∧Rs dir {D with m:=aG D.m (bY dir) ⟨v.data++b,v.syn⟩,acts:=D.acts+1} S (k+1) bo (some ⟨v.data++b,v.syn⟩)∧(0≤D.quota→(b.size:Int)≠0→(used D.m:Int)+b.size≤D.quota)):=by
 unfold Dk.app
 rw[h.asked (new_nm hd hd30),if_neg (by decide),h.getN]
 simp only
 rw[if_neg (by omega)]
 by_cases hq:0≤D.quota∧b.size≠0∧D.quota<(used D.m:Int)+b.size
 · rw[if_pos hq]
   exact .inl ⟨rfl,hq.1⟩
 · rw[if_neg hq]
   obtain⟨h1,h2⟩:=h.act (fun m=>aG m (bY dir) ⟨v.data++b,v.syn⟩) (log_set new_rst) (by rw[rst_set new_rst];exact h.ok.setNew _)
   exact .inr ⟨h1,h2,fun e1 e2=>by omega⟩
theorem Rs.sync (h:Rs dir D S k bo (some v)):D.sync (bY dir)=(0,{D with m:=aG D.m (bY dir) ⟨v.data,v.data.size⟩,acts:=D.acts+1})∧Rs dir {D with m:=aG D.m (bY dir) ⟨v.data,v.data.size⟩,acts:=D.acts+1} S (k+1) bo (some ⟨v.data,v.data.size⟩):=by
 unfold Dk.sync
 rw[h.asked (new_nm hd hd30),if_neg (by decide),h.getN]
 simp only
 exact h.act (fun m=>aG m (bY dir) ⟨v.data,v.data.size⟩) (log_set new_rst) (by rw[rst_set new_rst];exact h.ok.setNew _)
theorem Rs.rename (h:Rs dir D S k bo (some v)):D.rename (bY dir) (bP dir)=(0,{D with m:=aG (aW D.m (bY dir)) (bP dir) v,acts:=D.acts+1})∧Rs dir {D with m:=aG (aW D.m (bY dir)) (bP dir) v,acts:=D.acts+1} S (k+1) (some v) none:=by
 unfold Dk.rename
 rw[h.asked2 (new_nm hd hd30) (snap_nm hd hd30),if_neg (by decide),h.getN]
 simp only
 exact h.act (fun m=>aG (aW m (bY dir)) (bP dir) v) (by rw[log_set snap_rst,log_del new_rst]) (by rw[rst_set snap_rst,rst_del];exact h.ok.delNew.setSnap _)
end
end
end Go.Proofs.YtpfibkgmfapnjaaGreatDoor
