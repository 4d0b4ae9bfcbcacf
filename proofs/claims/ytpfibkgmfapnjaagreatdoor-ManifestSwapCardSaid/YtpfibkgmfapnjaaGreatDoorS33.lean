/- Manifest: the reader: an edit read back from its bytes. -/
import Derived.Test.YtpfibkgmfapnjaaGreatDoorS32
set_option linter.unusedSimpArgs false
set_option linter.unusedVariables false
namespace Go.Proofs.YtpfibkgmfapnjaaGreatDoor
section
open Go.RowKit
variable {w w' w0:World} {H:Nat→Prop} {b:Nat} {l r:List UInt8} {v:Int} {s:ByteArray} {e:PE}
theorem eIn:kJ Tryz.prog 31 3 1 8 cI1 where
 und:=Tryz.underlying31
 info:=by
  obtain⟨i0,hi0,hz0,hs0,hy0⟩:=info_parts info_int
  exact⟨i0,_,hi0,hz0,hs0,hy0,rfl⟩
 pos:=by decide
 few:=by decide
 len _:=rfl
 one:=by
  intro x u hu
  unfold cI1 at hu
  rw[List.mem_singleton]at hu
  subst hu
  rfl
def OwnEd (w:World) (B:Nat) (v:Value) (e:PE):Prop:=∃ xv yv mv ov,v= .agg #[xv,yv,.int .i64 e.log,mv,ov]∧bE eFi w B xv e.add∧bE eIn w B yv e.rem∧bE eVec w B mv e.fl∧bE eNt w B ov e.ns
theorem eH.set0 {b:Nat} {x0 x1 x2 x3 x4:Value} (h:eH w b x0 x1 x2 x3 x4) (y:Value):eH (w.setCell ⟨b,0,none⟩ y) b y x1 x2 x3 x4:=
 ⟨World.cell?_setCell_same _ _ _ h.z0,aC h.z1 (by decide),aC h.z2 (by decide),aC h.z3 (by decide),aC h.z4 (by decide),fun j=>by rw[World.frozen?_setCell];exact h.zf j⟩
theorem eH.set1 {b:Nat} {x0 x1 x2 x3 x4:Value} (h:eH w b x0 x1 x2 x3 x4) (y:Value):eH (w.setCell ⟨b,1,none⟩ y) b x0 y x2 x3 x4:=
 ⟨aC h.z0 (by decide),World.cell?_setCell_same _ _ _ h.z1,aC h.z2 (by decide),aC h.z3 (by decide),aC h.z4 (by decide),fun j=>by rw[World.frozen?_setCell];exact h.zf j⟩
theorem eH.set4 {b:Nat} {x0 x1 x2 x3 x4:Value} (h:eH w b x0 x1 x2 x3 x4) (y:Value):eH (w.setCell ⟨b,4,none⟩ y) b x0 x1 x2 x3 y:=
 ⟨aC h.z0 (by decide),aC h.z1 (by decide),aC h.z2 (by decide),aC h.z3 (by decide),World.cell?_setCell_same _ _ _ h.z4,fun j=>by rw[World.frozen?_setCell];exact h.zf j⟩
theorem jY {α:Type} {l:List α} {i:Nat} (h:i<l.length):l.drop i=l[i]::l.drop (i+1):=List.drop_eq_getElem_cons h
theorem lS {α:Type} (l:List α):l.drop l.length=[]:=List.drop_length
def iA (b eb q:Nat):Prop:=q=b∨q=eb
theorem grown_two {α:Type} {P:Program} {T E:TypeId} {k by_:Nat} {cell:α→List Value} {el:kJ P T E k by_ cell} {ws w6 w7:World} {x:Value} {l:List α} {F:Nat→Prop} (h:Tn F ws w6) (ho:bE el w6 ws.heap.size x l) (hg:w6.grownBy w7 x.ownBlock):Tn F ws w7:=
 h.andThen (Tn.ofGrown (F:=fun q=>x.ownBlock=some q) hg (fun q hq=>hq)) (fun q hq=> .inr (ho.lt q hq).1)
theorem vecget_any (l:List Int) (hl:iS l=true) (w:World):Calls Tryz.prog 296 #[.string ⟨(fG l).toArray⟩] w fun e w'=>(∃ a c,e= .returned (.tuple #[.slice a l.length c,.int .i64 ((fG l).length:Int),.int .i64 0])∧bE eVec w' w.heap.size (.slice a l.length c) l)∧Below w.heap.size w w':=by
 have hv:bK l=true:=(hZ l).symm.trans hl
 have hlen:=encV_len hv
 refine(getv_any _ w (by rw[bQ];omega)).mono ?_
 rintro e w' ⟨h,hb⟩
 refine⟨?_,hb⟩
 rcases h with⟨code,_,_,hno⟩|⟨a,c,vs,r,he,hvs,hx,ho⟩
 · exact absurd ⟨l,[],hv,by rw[lW,List.append_nil]⟩ hno
 · rw[lW]at hx
   have h2:=encV_inj (x:=[]) (y:=r) hv hvs (by rw[List.append_nil];exact hx)
   obtain⟨rfl,_⟩:=h2
   exact⟨a,c,he,ho⟩
set_option maxRecDepth 100000 in
set_option maxHeartbeats 8000000 in
theorem redit_any (h:RS w b (eE e++r)) (ok:LaidOk e):Calls Tryz.prog 236 #[.pointer (some ⟨b,0,none⟩)] w fun x w'=>∃ v,x= .returned v∧OwnEd w' w.heap.size v e∧RS w' b r∧Tn (fun q=>q=b) w w':=by
 have hbl:=h.lt
 obtain⟨R4,hR4⟩:∃ R,e.ns.flatMap ntL++r=R:=⟨_,rfl⟩
 obtain⟨R3,hR3⟩:∃ R,aS e.ns.length++R4=R:=⟨_,rfl⟩
 obtain⟨R2,hR2⟩:∃ R,aS e.log++(dY ⟨(flL e.fl).toArray⟩++R3)=R:=⟨_,rfl⟩
 obtain⟨R1,hR1⟩:∃ R,e.rem.flatMap aS++R2=R:=⟨_,rfl⟩
 have h0:RS w b (aS e.add.length++(e.add.flatMap fiL++(aS e.rem.length++R1))):=by
  have e1:eE e++r=aS e.add.length++(e.add.flatMap fiL++(aS e.rem.length++R1)):=by
   rw[← hR1,←hR2,←hR3,←hR4]
   unfold eE dY
   rw[bQ,lW]
   simp only[List.append_assoc]
  rw[← e1]
  exact h
 clear h
 have hq1:=ok.addn
 have hq2:=ok.remn
 have hq4:=ok.nsn
 obtain⟨xn,hxn⟩:∃ n,e.add.length=n:=⟨_,rfl⟩
 obtain⟨yn,hyn⟩:∃ n,e.rem.length=n:=⟨_,rfl⟩
 obtain⟨on,hon⟩:∃ n,e.ns.length=n:=⟨_,rfl⟩
 rw[hxn]at h0 hq1
 rw[hyn]at h0 hq2
 rw[hon]at hR3 hq4
 obtain⟨w1,hw1⟩:∃ w1,w.alloc (.cells #[.slice none 0 0,.slice none 0 0,.int .i64 0,.slice none 0 0,.slice none 0 0] 56)=w1:=⟨_,rfl⟩
 obtain⟨w2,hw2⟩:∃ w2,w1.alloc (.cells #[.slice none 0 0,.slice none 0 0,.int .i64 0,.slice none 0 0,.slice none 0 0] 56)=w2:=⟨_,rfl⟩
 have hz1:w1.heap.size=w.heap.size+1:=by rw[← hw1];simp
 have hz2:w2.heap.size=w.heap.size+2:=by rw[← hw2,←hw1];simp
 have hb2:Below w.heap.size w w2:=by rw[← hw2,←hw1];exact((Below.refl _ _).alloc (Nat.le_refl _) _).alloc (by simp) _
 have hrb:eH w2 w.heap.size (.slice none 0 0) (.slice none 0 0) (.int .i64 0) (.slice none 0 0) (.slice none 0 0):=by
  rw[← hw2,←hw1]
  refine⟨?_,?_,?_,?_,?_,fun j=>?_⟩
  all_goals simp[go_sem]
 have heb:eH w2 (w.heap.size+1) (.slice none 0 0) (.slice none 0 0) (.int .i64 0) (.slice none 0 0) (.slice none 0 0):=by
  rw[← hw2,←hz1]
  refine⟨?_,?_,?_,?_,?_,fun j=>?_⟩
  all_goals simp[go_sem]
 have HOK:=aB ok
 have HN:=aB (aA hxn (aA hyn hon))
 have HR:=aB (aA hR1 (aA hR2 (aA hR3 hR4)))
 have H2:=aB (aA (h0.below hb2) (aA hrb (aA heb (aA hb2 hz2))))
 clear h0 hrb heb hb2 ok hxn hyn hon hR1 hR2 hR3 hR4
 go_enter Tryz.func236,Tryz.ntmps236
 go_wp2_with (go_at_call 235;refine(cO H2.out.1 (by omega) (by omega)).mono ?_;rintro x w3 ⟨rfl,r3,t3⟩;have H3:=aB (aA r3 (aA (H2.out.2.2.1.tn t3 (show ¬ w.heap.size+1=b by omega)) (aA t3 (show w.heap.size+2≤w3.heap.size by have:=t3.size;have:=H2.out.2.2.2.2;omega))));clear r3 t3)
 clear hw1 hw2
 go_loopw [10] (fun y wr=>∃ (i:Nat) (a:Option Addr) (c:Nat),i≤xn∧y= .int .i64 (i:Int)∧RS wr b ((e.add.drop i).flatMap fiL++(aS yn++R1))∧eH wr (w.heap.size+1) (.slice a i c) (.slice none 0 0) (.int .i64 0) (.slice none 0 0) (.slice none 0 0)∧bE eFi wr w3.heap.size (.slice a i c) (e.add.take i)∧Tn (iA b (w.heap.size+1)) w3 wr) (fun y _=>xn - (intOf y).toNat)
 case atStart=>exact⟨0,none,0,by omega,rfl,H3.out.1,H3.out.2.1,World.ownsRow_nil _ _ _ _,Tn.refl _ _⟩
 case round=>
  obtain⟨i,a,c,hi,rfl,hrs,hob,hown,ht⟩:=hrel
  by_cases hlt:i<xn
  · have hil:i<e.add.length:=by rw[HN.out.1];exact hlt
    obtain⟨f,hf⟩:∃ f:Fi,e.add[i]=f:=⟨_,rfl⟩
    have hva:=gI (HOK.out.add f (by rw[← hf];exact List.getElem_mem hil))
    obtain⟨R,hR⟩:∃ R,(e.add.drop (i+1)).flatMap fiL++(aS yn++R1)=R:=⟨_,rfl⟩
    have hrs2:RS wr b (aS f.lv++(aS f.nu++(aS f.ct++(aS f.sz++(dY f.f++(dY f.l++R)))))):=by
     rw[jY hil,hf,List.flatMap_cons,List.append_assoc,hR]at hrs
     (try unfold fiL at hrs)
     (try simp only[List.append_assoc]at hrs)
     exact hrs
    have htk:e.add.take (i+1)=e.add.take i++[f]:=by rw[List.take_succ_eq_append_getElem hil,hf]
    have htl:(e.add.take i).length=i:=by rw[List.length_take];omega
    have HRR:=aB (aA hrs2 (aA hob (aA hown (aA ht (aA hR (aA htk htl))))))
    have HV:=aB hva
    have z0:(i:Int)<(xn:Int):=by omega
    have cwr:wr.cell? ⟨w.heap.size+1,0,none⟩=some (.slice a i c):=hob.z0
    clear hrs hrs2 hob hown ht hR htk htl hf hva
    go_upto_region 4 with fail
    obtain⟨wz,hwz⟩:∃ wz,wr.drew=wz:=⟨_,rfl⟩
    have hzb:Below wr.heap.size wr wz:=by rw[← hwz];exact(Below.refl _ _).drew
    have cwz:wz.cell? ⟨w.heap.size+1,0,none⟩=some (.slice a i c):=by rw[← hwz];exact cwr
    refine dQ (fun w'=>w'.cell? ⟨w.heap.size+1,0,none⟩=some (.slice a i c)) 18 19 cwr (fun hH=>?_)
    rw[hwz]at hH ⊢
    have HZ:=aB (aA (HRR.out.1.below hzb) hzb)
    clear hwz hzb cwr
    refine bU [[0],[1],[2],[4],[6],[8],[10],[12]] hH ?_
    refine bM (i:=3) rfl (fun K hK=>?_)
    go_simp
    go_at_call 235
    refine(cO HZ.out.1 (by have:=HV.out;omega) (by have:=HV.out;omega)).mono ?_
    rintro r v3 ⟨rfl,rv3,tv3⟩
    have cv3:v3.cell? ⟨w.heap.size+1,0,none⟩=some (.slice a i c):=tv3.cell cwz (show ¬ w.heap.size+1=b by omega)
    have K3:=aB (aA rv3 tv3)
    clear rv3 tv3 cwz
    refine bH hK cv3 ?_
    clear hK K
    intro hH
    refine bM (i:=5) rfl (fun K hK=>?_)
    go_simp
    go_at_call 235
    refine(cO K3.out.1 (by have:=HV.out;omega) (by have:=HV.out;omega)).mono ?_
    rintro r v5 ⟨rfl,rv5,tv5⟩
    have cv5:v5.cell? ⟨w.heap.size+1,0,none⟩=some (.slice a i c):=tv5.cell cv3 (show ¬ w.heap.size+1=b by omega)
    have K5:=aB (aA rv5 tv5)
    clear rv5 tv5 cv3
    refine bH hK cv5 ?_
    clear hK K
    intro hH
    refine bM (i:=7) rfl (fun K hK=>?_)
    go_simp
    go_at_call 235
    refine(cO K5.out.1 (by have:=HV.out;omega) (by have:=HV.out;omega)).mono ?_
    rintro r v7 ⟨rfl,rv7,tv7⟩
    have cv7:v7.cell? ⟨w.heap.size+1,0,none⟩=some (.slice a i c):=tv7.cell cv5 (show ¬ w.heap.size+1=b by omega)
    have K7:=aB (aA rv7 tv7)
    clear rv7 tv7 cv5
    refine bH hK cv7 ?_
    clear hK K
    intro hH
    refine bM (i:=9) rfl (fun K hK=>?_)
    go_simp
    go_at_call 235
    refine(cO K7.out.1 (by have:=HV.out;omega) (by have:=HV.out;omega)).mono ?_
    rintro r v9 ⟨rfl,rv9,tv9⟩
    have cv9:v9.cell? ⟨w.heap.size+1,0,none⟩=some (.slice a i c):=tv9.cell cv7 (show ¬ w.heap.size+1=b by omega)
    have K9:=aB (aA rv9 tv9)
    clear rv9 tv9 cv7
    refine bH hK cv9 ?_
    clear hK K
    intro hH
    refine bM (i:=11) rfl (fun K hK=>?_)
    go_simp
    go_at_call 295
    refine(gK K9.out.1).mono ?_
    rintro r v11 ⟨rfl,rv11,tv11⟩
    have cv11:v11.cell? ⟨w.heap.size+1,0,none⟩=some (.slice a i c):=tv11.cell cv9 (show ¬ w.heap.size+1=b by omega)
    have K11:=aB (aA rv11 tv11)
    clear rv11 tv11 cv9
    refine bH hK cv11 ?_
    clear hK K
    intro hH
    refine bM (i:=13) rfl (fun K hK=>?_)
    go_simp
    go_at_call 295
    refine(gK K11.out.1).mono ?_
    rintro r v13 ⟨rfl,rv13,tv13⟩
    have cv13:v13.cell? ⟨w.heap.size+1,0,none⟩=some (.slice a i c):=tv13.cell cv11 (show ¬ w.heap.size+1=b by omega)
    have K13:=aB (aA rv13 tv13)
    clear rv13 tv13 cv11
    refine bH hK cv13 ?_
    clear hK K
    intro hH
    refine bU [[14]] hH ?_
    refine bM (i:=15) rfl (fun K hK=>?_)
    go_simp
    obtain⟨we,hwe⟩:∃ we,we=v13.alloc (.cells #[.int .i64 f.lv,.int .i64 f.nu,.int .i64 f.ct,.int .i64 f.sz,.string f.f,.string f.l] 79):=⟨_,rfl⟩
    have hbe:Below v13.heap.size v13 we:=by rw[hwe];exact(Below.refl _ _).alloc (Nat.le_refl _) _
    have hsrc:Src eFi we (.slice (some ⟨v13.heap.size,0,none⟩) 1 1) [f]:=by rw[hwe];exact eW (e:=eFi) v13 f _ _ rfl 1
    rw[← hwe]
    clear hwe
    have htz:Tn (fun q=>q=b) wr v13:=((((((Tn.ofBelow (F:=fun q=>q=b) HZ.out.2).trans K3.out.2).trans K5.out.2).trans K7.out.2).trans K9.out.2).trans K11.out.2).trans K13.out.2
    have hte:Tn (fun q=>q=b) wr we:=htz.trans (Tn.ofBelow hbe)
    have hown6:bE eFi we w3.heap.size (.slice a i c) (e.add.take i):=hte.row HRR.out.2.2.1 (fun q hq e=>by have:=(HRR.out.2.2.1.lt q hq).1;have:=H3.out.2.2.2;omega)
    have hob6:=HRR.out.2.1.tn hte (show ¬ w.heap.size+1=b by omega)
    have ht6:Tn (iA b (w.heap.size+1)) w3 we:=HRR.out.2.2.2.1.trans (hte.mono (fun q e=> .inl e))
    have H6:=aB (aA hsrc (aA hown6 (aA hob6 (aA ht6 (K13.out.1.below hbe)))))
    have ce:we.cell? ⟨w.heap.size+1,0,none⟩=some (.slice a i c):=hob6.z0
    clear hbe hsrc htz hte hown6 hob6 ht6 cv13
    refine bH hK ce ?_
    clear hK K
    intro hH
    refine bM (i:=16) rfl (fun K hK=>?_)
    refine lE eFi rfl _ _ rfl rfl rfl H6.out.2.1 H6.out.1 (by rw[HRR.out.2.2.2.2.2.2];simp;omega) (by have:=H6.out.2.2.2.1.size;omega) ?_
    rw[HRR.out.2.2.2.2.2.2]
    intro a7 cap7 w7 ho7 hb7 hg7 _
    have ht7:=grown_two H6.out.2.2.2.1 H6.out.2.1 hg7
    have hob7:eH w7 (w.heap.size+1) (.slice a i c) (.slice none 0 0) (.int .i64 0) (.slice none 0 0) (.slice none 0 0):=H6.out.2.2.1.tnH (Tn.ofGrown hg7 (fun q hq=>hq)) (fun e=>by have:=(H6.out.2.1.lt _ e).1;have:=H3.out.2.2.2;omega)
    have hr7:RS w7 b R:=H6.out.2.2.2.2.tn (Tn.ofGrown hg7 (fun q hq=>hq)) (fun e=>by have:=(H6.out.2.1.lt _ e).1;have:=H3.out.2.2.2;omega)
    have H7:=aB (aA ho7 (aA ht7 (aA hob7 hr7)))
    have c7:=hob7.z0
    have f7:=hob7.zf 0
    clear ho7 hb7 hg7 ht7 hob7 hr7 ce
    refine bH hK c7 ?_
    clear hK K
    intro hH
    refine bU [[17]] hH ?_
    refine eU ?_
    clear hH
    go_wp2_with fail
    go_roundw
    case rel=>
     refine⟨i+1,a7,cap7,by omega,by go_num,?_,H7.out.2.2.1.set0 _,?_,H7.out.2.1.trans (tn_setS.mono (fun q e=> .inr e))⟩
     · rw[HRR.out.2.2.2.2.1];exact H7.out.2.2.2.tn tn_setS (show ¬ b=w.heap.size+1 by omega)
     · rw[HRR.out.2.2.2.2.2.1];exact(tn_setS (w:=w7) (b:=w.heap.size+1) (j:=0)).row H7.out.1 (fun q hq e=>by have:=(H7.out.1.lt q hq).1;have:=H3.out.2.2.2;omega)
    case measure=>simp[intOf];omega
  · obtain rfl:i=xn:=by omega
    have hfull:e.add.take i=e.add:=by rw[← HN.out.1];exact List.take_length
    have hdr:e.add.drop i=[]:=by rw[← HN.out.1];exact lS _
    rw[hfull]at hown
    rw[hdr,List.flatMap_nil,List.nil_append]at hrs
    obtain⟨xa,rfl⟩:∃ xa,xa=a:=⟨_,rfl⟩
    obtain⟨xc,rfl⟩:∃ xc,xc=c:=⟨_,rfl⟩
    obtain⟨wA,rfl⟩:∃ wA,wA=wr:=⟨_,rfl⟩
    have htw:Tn (iA b (w.heap.size+1)) w2 wA:=(H3.out.2.2.1.mono (fun q e=> .inl e)).trans ht
    have hszA:w.heap.size+2≤wA.heap.size:=by have:=htw.size;have:=H2.out.2.2.2.2;omega
    have HA:=aB (aA hrs (aA hob (aA (aK hown H3.out.2.2.2) (aA htw hszA))))
    have z0:¬ (i:Int)<(i:Int):=by omega
    clear hrs hob hown ht htw hszA hfull hdr
    go_wp2_with (go_at_call 235;refine(cO HA.out.1 (by omega) (by omega)).mono ?_;rintro x w4 ⟨rfl,r4,t4⟩;have H4:=aB (aA r4 (aA (HA.out.2.1.tn t4 (show ¬ w.heap.size+1=b by omega)) (aA t4 (show w.heap.size+2≤w4.heap.size by have:=t4.size;have:=HA.out.2.2.2.2;omega))));clear r4 t4)
    go_loopw [33] (fun y wr=>∃ (j:Nat) (a:Option Addr) (c:Nat),j≤yn∧y= .int .i64 (j:Int)∧RS wr b ((e.rem.drop j).flatMap aS++R2)∧eH wr (w.heap.size+1) (.slice xa i xc) (.slice a j c) (.int .i64 0) (.slice none 0 0) (.slice none 0 0)∧bE eIn wr w4.heap.size (.slice a j c) (e.rem.take j)∧Tn (iA b (w.heap.size+1)) w4 wr) (fun y _=>yn - (intOf y).toNat)
    case atStart=>exact⟨0,none,0,by omega,rfl,by rw[List.drop_zero,HR.out.1];exact H4.out.1,H4.out.2.1,World.ownsRow_nil _ _ _ _,Tn.refl _ _⟩
    case round=>
     obtain⟨j,a,c,hj,rfl,hrs,hob,hown,ht⟩:=hrel
     by_cases hlt:j<yn
     · have hil:j<e.rem.length:=by rw[HN.out.2.1];exact hlt
       obtain⟨f,hf⟩:∃ f:Int,e.rem[j]=f:=⟨_,rfl⟩
       have hva:=HOK.out.rem f (by rw[← hf];exact List.getElem_mem hil)
       obtain⟨R,hR⟩:∃ R,(e.rem.drop (j+1)).flatMap aS++R2=R:=⟨_,rfl⟩
       have hrs2:RS wr b (aS f++R):=by
        rw[jY hil,hf,List.flatMap_cons,List.append_assoc,hR]at hrs
        (try simp only[List.append_assoc]at hrs)
        exact hrs
       have htk:e.rem.take (j+1)=e.rem.take j++[f]:=by rw[List.take_succ_eq_append_getElem hil,hf]
       have htl:(e.rem.take j).length=j:=by rw[List.length_take];omega
       have HRR:=aB (aA hrs2 (aA hob (aA hown (aA ht (aA hR (aA htk htl))))))
       have HV:=aB hva
       have z0:(j:Int)<(yn:Int):=by omega
       have cwr:wr.cell? ⟨w.heap.size+1,1,none⟩=some (.slice a j c):=hob.z1
       clear hrs hrs2 hob hown ht hR htk htl hf hva
       go_upto_region 8 with fail
       obtain⟨wz,hwz⟩:∃ wz,wr.drew=wz:=⟨_,rfl⟩
       have hzb:Below wr.heap.size wr wz:=by rw[← hwz];exact(Below.refl _ _).drew
       have cwz:wz.cell? ⟨w.heap.size+1,1,none⟩=some (.slice a j c):=by rw[← hwz];exact cwr
       refine dQ (fun w'=>w'.cell? ⟨w.heap.size+1,1,none⟩=some (.slice a j c)) 7 8 cwr (fun hH=>?_)
       rw[hwz]at hH ⊢
       have HZ:=aB (aA (HRR.out.1.below hzb) hzb)
       clear hwz hzb cwr
       refine bU [[0],[1],[2]] hH ?_
       refine bM (i:=3) rfl (fun K hK=>?_)
       go_simp
       go_at_call 235
       refine(cO HZ.out.1 (by have:=HV.out;omega) (by have:=HV.out;omega)).mono ?_
       rintro r v3 ⟨rfl,rv3,tv3⟩
       have cv3:v3.cell? ⟨w.heap.size+1,1,none⟩=some (.slice a j c):=tv3.cell cwz (show ¬ w.heap.size+1=b by omega)
       have K3:=aB (aA rv3 tv3)
       clear rv3 tv3 cwz
       refine bH hK cv3 ?_
       clear hK K
       intro hH
       refine bM (i:=4) rfl (fun K hK=>?_)
       go_simp
       obtain⟨we,hwe⟩:∃ we,we=v3.alloc (.cells #[.int .i64 f] 3):=⟨_,rfl⟩
       have hbe:Below v3.heap.size v3 we:=by rw[hwe];exact(Below.refl _ _).alloc (Nat.le_refl _) _
       have hsrc:Src eIn we (.slice (some ⟨v3.heap.size,0,none⟩) 1 1) [f]:=by rw[hwe];exact eW (e:=eIn) v3 f _ _ rfl 1
       rw[← hwe]
       clear hwe
       have htz:Tn (fun q=>q=b) wr v3:=(Tn.ofBelow (F:=fun q=>q=b) HZ.out.2).trans K3.out.2
       have hte:Tn (fun q=>q=b) wr we:=htz.trans (Tn.ofBelow hbe)
       have hown6:bE eIn we w4.heap.size (.slice a j c) (e.rem.take j):=hte.row HRR.out.2.2.1 (fun q hq e=>by have:=(HRR.out.2.2.1.lt q hq).1;have:=H4.out.2.2.2;omega)
       have hob6:=HRR.out.2.1.tn hte (show ¬ w.heap.size+1=b by omega)
       have ht6:Tn (iA b (w.heap.size+1)) w4 we:=HRR.out.2.2.2.1.trans (hte.mono (fun q e=> .inl e))
       have H6:=aB (aA hsrc (aA hown6 (aA hob6 (aA ht6 (K3.out.1.below hbe)))))
       have ce:we.cell? ⟨w.heap.size+1,1,none⟩=some (.slice a j c):=hob6.z1
       clear hbe hsrc htz hte hown6 hob6 ht6 cv3
       refine bH hK ce ?_
       clear hK K
       intro hH
       refine bM (i:=5) rfl (fun K hK=>?_)
       refine lE eIn rfl _ _ rfl rfl rfl H6.out.2.1 H6.out.1 (by rw[HRR.out.2.2.2.2.2.2];simp;omega) (by have:=H6.out.2.2.2.1.size;omega) ?_
       rw[HRR.out.2.2.2.2.2.2]
       intro a7 cap7 w7 ho7 hb7 hg7 _
       have ht7:=grown_two H6.out.2.2.2.1 H6.out.2.1 hg7
       have hob7:eH w7 (w.heap.size+1) (.slice xa i xc) (.slice a j c) (.int .i64 0) (.slice none 0 0) (.slice none 0 0):=H6.out.2.2.1.tnH (Tn.ofGrown hg7 (fun q hq=>hq)) (fun e=>by have:=(H6.out.2.1.lt _ e).1;have:=H4.out.2.2.2;omega)
       have hr7:RS w7 b R:=H6.out.2.2.2.2.tn (Tn.ofGrown hg7 (fun q hq=>hq)) (fun e=>by have:=(H6.out.2.1.lt _ e).1;have:=H4.out.2.2.2;omega)
       have H7:=aB (aA ho7 (aA ht7 (aA hob7 hr7)))
       have c7:=hob7.z1
       have f7:=hob7.zf 1
       clear ho7 hb7 hg7 ht7 hob7 hr7 ce
       refine bH hK c7 ?_
       clear hK K
       intro hH
       refine bU [[6]] hH ?_
       refine eU ?_
       clear hH
       go_wp2_with fail
       go_roundw
       case rel=>
        refine⟨j+1,a7,cap7,by omega,by go_num,?_,H7.out.2.2.1.set1 _,?_,H7.out.2.1.trans (tn_setS.mono (fun q e=> .inr e))⟩
        · rw[HRR.out.2.2.2.2.1];exact H7.out.2.2.2.tn tn_setS (show ¬ b=w.heap.size+1 by omega)
        · rw[HRR.out.2.2.2.2.2.1];exact(tn_setS (w:=w7) (b:=w.heap.size+1) (j:=1)).row H7.out.1 (fun q hq e=>by have:=(H7.out.1.lt q hq).1;have:=H4.out.2.2.2;omega)
       case measure=>simp[intOf];omega
     · obtain rfl:j=yn:=by omega
       have hfull:e.rem.take j=e.rem:=by rw[← HN.out.2.1];exact List.take_length
       have hdr:e.rem.drop j=[]:=by rw[← HN.out.2.1];exact lS _
       rw[hfull]at hown
       rw[hdr,List.flatMap_nil,List.nil_append,←HR.out.2.1]at hrs
       obtain⟨ya,rfl⟩:∃ xa,xa=a:=⟨_,rfl⟩
       obtain⟨yc,rfl⟩:∃ xc,xc=c:=⟨_,rfl⟩
       obtain⟨wB,rfl⟩:∃ wA,wA=wr:=⟨_,rfl⟩
       have htw:Tn (iA b (w.heap.size+1)) wA wB:=(H4.out.2.2.1.mono (fun q e=> .inl e)).trans ht
       have hszB:w.heap.size+2≤wB.heap.size:=by have:=htw.size;have:=HA.out.2.2.2.2;omega
       have hoA:bE eFi wB (w.heap.size+2) (.slice xa i xc) e.add:=htw.row HA.out.2.2.1 (fun q hq e=>by have:=(HA.out.2.2.1.lt q hq).1;unfold iA at e;omega)
       have HB:=aB (aA hrs (aA hob (aA (aK hown H4.out.2.2.2) (aA (HA.out.2.2.2.1.trans htw) (aA hszB hoA)))))
       have z0:¬ (j:Int)<(j:Int):=by omega
       have hlog:=HOK.out.log
       have hfl:=HOK.out.fl
       clear hrs hob hown ht htw hszB hfull hdr hoA
       obtain⟨fb,hfb⟩:∃ fb:ByteArray,(⟨(flL e.fl).toArray⟩:ByteArray)=fb:=⟨_,rfl⟩
       have hv5:∀ (w5:World),RS w5 b (dY ⟨(flL e.fl).toArray⟩++R3)→Tn (fun q=>q=b) wB w5→w5.cell? ⟨w.heap.size+1,2,none⟩=some (.int .i64 0)∧w5.frozen? ⟨w.heap.size+1,2,none⟩=false∧RS (w5.setCell ⟨w.heap.size+1,2,none⟩ (.int .i64 e.log)) b (dY fb++R3)∧eH (w5.setCell ⟨w.heap.size+1,2,none⟩ (.int .i64 e.log)) (w.heap.size+1) (.slice xa i xc) (.slice ya j yc) (.int .i64 e.log) (.slice none 0 0) (.slice none 0 0)∧Tn (iA b (w.heap.size+1)) wB (w5.setCell ⟨w.heap.size+1,2,none⟩ (.int .i64 e.log)):=fun w5 r5 t5=>by
        have ho5:=HB.out.2.1.tn t5 (show ¬ w.heap.size+1=b by omega)
        rw[hfb]at r5
        exact⟨ho5.z2,ho5.zf 2,r5.tn tn_setS (show ¬ b=w.heap.size+1 by omega),ho5.set2,(t5.mono (fun q e=> .inl e)).trans (tn_setS.mono (fun q e=> .inr e))⟩
       have HV5:=aB hv5
       have HFB:=aB hfb
       clear hv5 hfb
       obtain⟨tb,s1⟩:∃ tb,fb.toList.isEmpty=tb:=⟨_,rfl⟩
       go_upto_if 49 with(first
        |(go_at_call 295;refine(gK (s:=fb) (r:=R3) H6.out.1).mono ?_;rintro x w7 ⟨rfl,r7,t7⟩;have H7:=aB (aA r7 (aA (H6.out.2.1.tn t7 (show ¬ w.heap.size+1=b by omega)) (H6.out.2.2.trans (t7.mono (fun q e=> .inl e)))));clear r7 t7)
        |(go_at_call 235;refine(cO (v:=e.log) (r:=dY ⟨(flL e.fl).toArray⟩++R3) HB.out.1 (by omega) (by omega)).mono ?_;rintro x w5 ⟨rfl,r5,t5⟩;obtain⟨c5,f5,h6⟩:=HV5.out w5 r5 t5;have H6:=aB h6;clear r5 t5 h6))
       go_cut [] (fun wx=>∃ (ma:Option Addr) (fn mc:Nat),RS wx b R3∧eH wx (w.heap.size+1) (.slice xa i xc) (.slice ya j yc) (.int .i64 e.log) (.slice ma fn mc) (.slice none 0 0)∧bE eVec wx (w.heap.size+2) (.slice ma fn mc) e.fl∧Tn (iA b (w.heap.size+1)) wB wx)
       case first=>
        by_cases hf0:e.fl=[]
        · obtain rfl:tb=true:=s1.symm.trans (jX (by rw[← HFB.out,bQ];unfold flL;rw[if_pos hf0];rfl))
          have HF0:=aB hf0
          clear hf0 hfl
          go_wp2
          go_meet
          case rel=>exact⟨none,0,0,H7.out.1,H7.out.2.1,by rw[HF0.out];exact World.ownsRow_nil _ _ _ _,H7.out.2.2⟩
        · have hvb:iS e.fl=true:=hfl.resolve_left hf0
          have hfe:fb=⟨(fG e.fl).toArray⟩:=by rw[← HFB.out];unfold flL;rw[if_neg hf0]
          have hfz:(fG e.fl).length=fb.size:=by rw[hfe,bQ]
          obtain rfl:tb=false:=s1.symm.trans (emp_no (by rw[← hfz];unfold fG;simp))
          obtain⟨fn,hfn⟩:∃ fn,e.fl.length=fn:=⟨_,rfl⟩
          have hG:∀ w,Calls Tryz.prog 296 #[.string fb] w fun x w'=>(∃ a c,x= .returned (.tuple #[.slice a fn c,.int .i64 (fb.size:Int),.int .i64 0])∧bE eVec w' w.heap.size (.slice a fn c) e.fl)∧Below w.heap.size w w':=fun w=>by
           have h:=vecget_any e.fl hvb w
           rw[← hfe,hfz,hfn]at h
           exact h
          have HG:=aB hG
          clear hf0 hfl hG hfe hfz hvb hfn
          go_wp2_with (first
           |(go_at_call 234;refine(hY _).mono ?_;rintro x wW ⟨rfl,rfl⟩)
           |(go_at_call 296;refine(HG.out _).mono ?_;rintro x w9 ⟨⟨ma,mc,rfl,ho9⟩,hb9⟩;have h9:=H7.out.2.1.below hb9;have c3:=h9.z3;have f3:=h9.zf 3;have H9:=aB (aA ((H7.out.1.below hb9).tn (w':=w9.setCell ⟨w.heap.size+1,3,none⟩ (.slice ma fn mc)) tn_setS (show ¬ b=w.heap.size+1 by omega)) (aA (h9.set3 (y:= .slice ma fn mc)) ((H7.out.2.2.trans (Tn.ofBelow hb9)).trans (tn_setS.mono (fun q e=> .inr e)):Tn (iA b (w.heap.size+1)) wB (w9.setCell ⟨w.heap.size+1,3,none⟩ (.slice ma fn mc)))));have hz7:w.heap.size+2≤w7.heap.size:=(by have:=H7.out.2.2.size;have:=HB.out.2.2.2.2.1;omega);have HO9:=aB (aK ((tn_setS (w:=w9) (b:=w.heap.size+1) (j:=3) (v:= .slice ma fn mc)).row ho9 (fun q hq e=>by have:=(ho9.lt q hq).1;omega)) hz7:bE eVec (w9.setCell ⟨w.heap.size+1,3,none⟩ (.slice ma fn mc)) (w.heap.size+2) (.slice ma fn mc) e.fl);clear h9 ho9 hb9 hz7))
          go_meet
          case rel=>exact⟨ma,fn,mc,H9.out.1,H9.out.2.1,HO9.out,H9.out.2.2⟩
       case rest=>
        obtain⟨ma,fn,mc,g1,g2,g3,g4⟩:=hcut
        rename World=>wF
        have H9:=aB (aA g1 (aA g2 g4))
        have HO9:=aB g3
        clear g1 g2 g3 g4 hfl
        go_wp2_with (go_at_call 235;refine(cO (v:=(on:Int)) (r:=R4) (by rw[HR.out.2.2.1];exact H9.out.1) (by omega) (by omega)).mono ?_;rintro x w8 ⟨rfl,r8,t8⟩;have H8:=aB (aA r8 (aA (H9.out.2.1.tn t8 (show ¬ w.heap.size+1=b by omega)) (aA (H9.out.2.2.trans (t8.mono (fun q e=> .inl e))) (show w.heap.size+2≤w8.heap.size by have:=t8.size;have:=(H9.out.2.2.trans (t8.mono (fun q e=> .inl e))).size;have:=HB.out.2.2.2.2.1;omega))));have HO8:=aB (t8.row HO9.out (fun q hq e=>by have:=(HO9.out.lt q hq).1;omega));clear r8 t8)
        go_loopw [69] (fun y wr=>∃ (h:Nat) (a:Option Addr) (c:Nat),h≤on∧y= .int .i64 (h:Int)∧RS wr b ((e.ns.drop h).flatMap ntL++r)∧eH wr (w.heap.size+1) (.slice xa i xc) (.slice ya j yc) (.int .i64 e.log) (.slice ma fn mc) (.slice a h c)∧bE eNt wr w8.heap.size (.slice a h c) (e.ns.take h)∧Tn (iA b (w.heap.size+1)) w8 wr) (fun y _=>on - (intOf y).toNat)
        case atStart=>exact⟨0,none,0,by omega,rfl,by rw[List.drop_zero,HR.out.2.2.2];exact H8.out.1,H8.out.2.1,World.ownsRow_nil _ _ _ _,Tn.refl _ _⟩
        case round=>
         obtain⟨h,a,c,hh,rfl,hrs,hob,hown,ht⟩:=hrel
         by_cases hlt:h<on
         · have hil:h<e.ns.length:=by rw[HN.out.2.2];exact hlt
           obtain⟨f,hf⟩:∃ f:KV,e.ns[h]=f:=⟨_,rfl⟩
           have hva:=HOK.out.ns f (by rw[← hf];exact List.getElem_mem hil)
           obtain⟨R,hR⟩:∃ R,(e.ns.drop (h+1)).flatMap ntL++r=R:=⟨_,rfl⟩
           have hrs2:RS wr b (dY f.1++(dY f.2++R)):=by
            rw[jY hil,hf,List.flatMap_cons,List.append_assoc,hR]at hrs
            (try unfold ntL at hrs)
            (try simp only[List.append_assoc]at hrs)
            exact hrs
           have htk:e.ns.take (h+1)=e.ns.take h++[f]:=by rw[List.take_succ_eq_append_getElem hil,hf]
           have htl:(e.ns.take h).length=h:=by rw[List.length_take];omega
           have HRR:=aB (aA hrs2 (aA hob (aA hown (aA ht (aA hR (aA htk htl))))))
           have HV:=aB hva
           have z0:(h:Int)<(on:Int):=by omega
           have cwr:wr.cell? ⟨w.heap.size+1,4,none⟩=some (.slice a h c):=hob.z4
           clear hrs hrs2 hob hown ht hR htk htl hf hva
           go_upto_region 18 with fail
           obtain⟨wz,hwz⟩:∃ wz,wr.drew=wz:=⟨_,rfl⟩
           have hzb:Below wr.heap.size wr wz:=by rw[← hwz];exact(Below.refl _ _).drew
           have cwz:wz.cell? ⟨w.heap.size+1,4,none⟩=some (.slice a h c):=by rw[← hwz];exact cwr
           refine dQ (fun w'=>w'.cell? ⟨w.heap.size+1,4,none⟩=some (.slice a h c)) 10 11 cwr (fun hH=>?_)
           rw[hwz]at hH ⊢
           have HZ:=aB (aA (HRR.out.1.below hzb) hzb)
           clear hwz hzb cwr
           refine bU [[0],[1],[2],[4]] hH ?_
           refine bM (i:=3) rfl (fun K hK=>?_)
           go_simp
           go_at_call 295
           refine(gK HZ.out.1).mono ?_
           rintro r v3 ⟨rfl,rv3,tv3⟩
           have cv3:v3.cell? ⟨w.heap.size+1,4,none⟩=some (.slice a h c):=tv3.cell cwz (show ¬ w.heap.size+1=b by omega)
           have K3:=aB (aA rv3 tv3)
           clear rv3 tv3 cwz
           refine bH hK cv3 ?_
           clear hK K
           intro hH
           refine bM (i:=5) rfl (fun K hK=>?_)
           go_simp
           go_at_call 295
           refine(gK K3.out.1).mono ?_
           rintro r v5 ⟨rfl,rv5,tv5⟩
           have cv5:v5.cell? ⟨w.heap.size+1,4,none⟩=some (.slice a h c):=tv5.cell cv3 (show ¬ w.heap.size+1=b by omega)
           have K5:=aB (aA rv5 tv5)
           clear rv5 tv5 cv3
           refine bH hK cv5 ?_
           clear hK K
           intro hH
           refine bU [[6]] hH ?_
           refine bM (i:=7) rfl (fun K hK=>?_)
           go_simp
           obtain⟨we,hwe⟩:∃ we,we=v5.alloc (.cells #[.string f.1,.string f.2] 74):=⟨_,rfl⟩
           have hbe:Below v5.heap.size v5 we:=by rw[hwe];exact(Below.refl _ _).alloc (Nat.le_refl _) _
           have hsrc:Src eNt we (.slice (some ⟨v5.heap.size,0,none⟩) 1 1) [f]:=by rw[hwe];exact eW (e:=eNt) v5 f _ _ rfl 1
           rw[← hwe]
           clear hwe
           have htz:Tn (fun q=>q=b) wr v5:=((Tn.ofBelow (F:=fun q=>q=b) HZ.out.2).trans K3.out.2).trans K5.out.2
           have hte:Tn (fun q=>q=b) wr we:=htz.trans (Tn.ofBelow hbe)
           have hown6:bE eNt we w8.heap.size (.slice a h c) (e.ns.take h):=hte.row HRR.out.2.2.1 (fun q hq e=>by have:=(HRR.out.2.2.1.lt q hq).1;have:=H8.out.2.2.2;omega)
           have hob6:=HRR.out.2.1.tn hte (show ¬ w.heap.size+1=b by omega)
           have ht6:Tn (iA b (w.heap.size+1)) w8 we:=HRR.out.2.2.2.1.trans (hte.mono (fun q e=> .inl e))
           have H6:=aB (aA hsrc (aA hown6 (aA hob6 (aA ht6 (K5.out.1.below hbe)))))
           have ce:we.cell? ⟨w.heap.size+1,4,none⟩=some (.slice a h c):=hob6.z4
           clear hbe hsrc htz hte hown6 hob6 ht6 cv5
           refine bH hK ce ?_
           clear hK K
           intro hH
           refine bM (i:=8) rfl (fun K hK=>?_)
           refine lE eNt rfl _ _ rfl rfl rfl H6.out.2.1 H6.out.1 (by rw[HRR.out.2.2.2.2.2.2];simp;omega) (by have:=H6.out.2.2.2.1.size;omega) ?_
           rw[HRR.out.2.2.2.2.2.2]
           intro a7 cap7 w7 ho7 hb7 hg7 _
           have ht7:=grown_two H6.out.2.2.2.1 H6.out.2.1 hg7
           have hob7:eH w7 (w.heap.size+1) (.slice xa i xc) (.slice ya j yc) (.int .i64 e.log) (.slice ma fn mc) (.slice a h c):=H6.out.2.2.1.tnH (Tn.ofGrown hg7 (fun q hq=>hq)) (fun e=>by have:=(H6.out.2.1.lt _ e).1;have:=H8.out.2.2.2;omega)
           have hr7:RS w7 b R:=H6.out.2.2.2.2.tn (Tn.ofGrown hg7 (fun q hq=>hq)) (fun e=>by have:=(H6.out.2.1.lt _ e).1;have:=H8.out.2.2.2;omega)
           have H7:=aB (aA ho7 (aA ht7 (aA hob7 hr7)))
           have c7:=hob7.z4
           have f7:=hob7.zf 4
           clear ho7 hb7 hg7 ht7 hob7 hr7 ce
           refine bH hK c7 ?_
           clear hK K
           intro hH
           refine bU [[9]] hH ?_
           refine eU ?_
           clear hH
           go_wp2_with fail
           go_roundw
           case rel=>
            refine⟨h+1,a7,cap7,by omega,by go_num,?_,H7.out.2.2.1.set4 _,?_,H7.out.2.1.trans (tn_setS.mono (fun q e=> .inr e))⟩
            · rw[HRR.out.2.2.2.2.1];exact H7.out.2.2.2.tn tn_setS (show ¬ b=w.heap.size+1 by omega)
            · rw[HRR.out.2.2.2.2.2.1];exact(tn_setS (w:=w7) (b:=w.heap.size+1) (j:=4)).row H7.out.1 (fun q hq e=>by have:=(H7.out.1.lt q hq).1;have:=H8.out.2.2.2;omega)
           case measure=>simp[intOf];omega
         · obtain rfl:h=on:=by omega
           have hfull:e.ns.take h=e.ns:=by rw[← HN.out.2.2];exact List.take_length
           have hdr:e.ns.drop h=[]:=by rw[← HN.out.2.2];exact lS _
           rw[hfull]at hown
           rw[hdr,List.flatMap_nil,List.nil_append]at hrs
           have z0:¬ (h:Int)<(h:Int):=by omega
           have htB:Tn (iA b (w.heap.size+1)) wB wr:=H8.out.2.2.1.trans ht
           have ht2:Tn (iA b (w.heap.size+1)) w2 wr:=HB.out.2.2.2.1.trans htB
           have hrb:=H2.out.2.1.tnH ht2 (show ¬ iA b (w.heap.size+1) w.heap.size by unfold iA;omega)
           have o0:bE eFi wr (w.heap.size+2) (.slice xa i xc) e.add:=htB.row HB.out.2.2.2.2.2 (fun q hq e=>by have:=(HB.out.2.2.2.2.2.lt q hq).1;unfold iA at e;omega)
           have o1:bE eIn wr (w.heap.size+2) (.slice ya j yc) e.rem:=htB.row HB.out.2.2.1 (fun q hq e=>by have:=(HB.out.2.2.1.lt q hq).1;unfold iA at e;omega)
           have o3:bE eVec wr (w.heap.size+2) (.slice ma fn mc) e.fl:=ht.row HO8.out (fun q hq e=>by have:=(HO8.out.lt q hq).1;unfold iA at e;omega)
           have o4:bE eNt wr (w.heap.size+2) (.slice a h c) e.ns:=aK hown H8.out.2.2.2
           have HE:=aB (aA hrs (aA o0 (aA o1 (aA o3 (aA o4 (aA ht2 hrb))))))
           have e0:=hob.z0
           have e1:=hob.z1
           have e2:=hob.z2
           have e3:=hob.z3
           have e4:=hob.z4
           have r0:=hrb.z0
           have r1:=hrb.z1
           have r2:=hrb.z2
           have r3:=hrb.z3
           have r4:=hrb.z4
           have q0:=hrb.zf 0
           have q1:=hrb.zf 1
           have q2:=hrb.zf 2
           have q3:=hrb.zf 3
           have q4:=hrb.zf 4
           clear hrs hob hown ht hfull hdr htB ht2 hrb o0 o1 o3 o4
           go_wp2_with fail
           have h6:=cells5 HE.out.2.2.2.2.2.2 (y0:= .slice xa i xc) (y1:= .slice ya j yc) (y2:= .int .i64 e.log) (y3:= .slice ma fn mc) (y4:= .slice a h c)
           have t5:=tn5 (w:=wr) (b:=w.heap.size) (y0:= .slice xa i xc) (y1:= .slice ya j yc) (y2:= .int .i64 e.log) (y3:= .slice ma fn mc) (y4:= .slice a h c)
           have nb:∀ {α:Type} {P:Program} {T E:TypeId} {k by_:Nat} {cell:α→List Value} {el:kJ P T E k by_ cell} {x:Value} {l:List α},bE el wr (w.heap.size+2) x l→∀ q,x.ownBlock=some q→¬ q=w.heap.size:=fun ho q hq e=>by have:=(ho.lt q hq).1;omega
           have htA:Tn (fun q=>q=b) w (((((wr.setCell ⟨w.heap.size,0,none⟩ (.slice xa i xc)).setCell ⟨w.heap.size,1,none⟩ (.slice ya j yc)).setCell ⟨w.heap.size,2,none⟩ (.int .i64 e.log)).setCell ⟨w.heap.size,3,none⟩ (.slice ma fn mc)).setCell ⟨w.heap.size,4,none⟩ (.slice a h c)):=
            ((Tn.ofBelow (F:=fun q=>q=b) H2.out.2.2.2.1).andThen (HE.out.2.2.2.2.2.1) (fun q hq=>hq.elim .inl (fun e=> .inr (by omega)))).andThen t5 (fun q hq=> .inr (by omega))
           (try simp only[Exit.inBlock,Exit.then])
           refine bodyPost_ret (eX rfl rfl (load_ed h6.z0 h6.z1 h6.z2 h6.z3 h6.z4)) rfl ⟨_,rfl,⟨_,_,_,_,rfl,aK (t5.row HE.out.2.1 (nb HE.out.2.1)) (by omega),aK (t5.row HE.out.2.2.1 (nb HE.out.2.2.1)) (by omega),aK (t5.row HE.out.2.2.2.1 (nb HE.out.2.2.2.1)) (by omega),aK (t5.row HE.out.2.2.2.2.1 (nb HE.out.2.2.2.2.1)) (by omega)⟩,HE.out.1.tn t5 (show ¬ b=w.heap.size by omega),htA⟩
end
end Go.Proofs.YtpfibkgmfapnjaaGreatDoor
