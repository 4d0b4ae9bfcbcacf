/- ManifestSwap: its walk. -/
import Derived.Test.YtpfibkgmfapnjaaGreatDoorS43
set_option linter.unusedSimpArgs false
set_option linter.unusedVariables false
namespace Go.Proofs.YtpfibkgmfapnjaaGreatDoor
section
open Go.RowKit
variable {w w' w0:World}
theorem swap_else (a:Option Addr) (len cap:Nat) (n:Int) (w:World) (h:30<len∨n<0∨4<n):
 Calls Tryz.prog 6 #[.slice a len cap,.int .i64 n] w fun e w'=>e= .returned (.bool true)∧Below w.heap.size w w':=by
 by_cases h30:30<len
 · have t0:(30:Int)<(len:Int):=by omega
   clear h
   go_enter Tryz.func6,Tryz.ntmps6
   go_wp2_with (go_at_call 7;refine(gL _).mono ?_;rintro r w3 ⟨rfl,hb3⟩;have H3:=aB hb3;clear hb3)
   go_ret
   exact⟨rfl,H3.out⟩
 · have t0:¬ (30:Int)<(len:Int):=by omega
   by_cases h0:n<0
   · clear h
     go_enter Tryz.func6,Tryz.ntmps6
     go_wp2_with (go_at_call 7;refine(gL _).mono ?_;rintro r w3 ⟨rfl,hb3⟩;have H3:=aB hb3;clear hb3)
     go_ret
     exact⟨rfl,H3.out⟩
   · have h4:4<n:=by omega
     clear h
     go_enter Tryz.func6,Tryz.ntmps6
     go_wp2_with (go_at_call 7;refine(gL _).mono ?_;rintro r w3 ⟨rfl,hb3⟩;have H3:=aB hb3;clear hb3)
     go_ret
     exact⟨rfl,H3.out⟩
theorem cR.fl8 {s:PS} (h:cR s):s.fl.length≤8:=by
 rcases h.fl with h8|h8
 · rw[h8];simp
 · unfold iS at h8
   simp only[Bool.and_eq_true,decide_eq_true_eq]at h8
   omega
set_option maxRecDepth 100000 in
set_option maxHeartbeats 16000000 in
theorem swap_walk (a:Option Addr) (len cap:Nat) (L:List EdR) (n:Int) {W:World} (hl:EdsIn W a len cap L) (hlen:len≤140737488351232) (_:(Lit.int IntKind.i64 n).wf=true) (w:World) (hW:W=w):
 Calls Tryz.prog 6 #[.slice a len cap,.int .i64 n] w fun e w'=>e= .returned (.bool true)∧Below w.heap.size w w':=by
 subst hW
 obtain⟨w,rfl⟩:∃ w,w=W:=⟨_,rfl⟩
 by_cases hout:30<len∨n<0∨4<n
 · exact swap_else a len cap n w hout
 have t0:¬ (30:Int)<(len:Int):=by omega
 have t1:¬ n<0:=by omega
 have t2:¬ 4<n:=by omega
 have hdm:dG dm=true:=by kernel_rfl
 have hd30:dm.size≤30:=by decide
 have HL:=aB hl
 have HD:=aB hdm
 clear hl hout hdm
 go_enter Tryz.func6,Tryz.ntmps6
 go_wp2_with (first
  |(go_at_call 9;refine(mm_new (dir:=dm) HD.out hd30 H2.out.1).mono ?_;rintro r w3 ⟨F3,lb,mp,mm,rfl,h3⟩;have H3:=aB h3;clear h3)
  |(go_at_call 8;refine(c_newd (Below.refl _ _)).mono ?_;rintro r w2 ⟨rfl,h2,hb2⟩;have H2:=aB (aA h2 hb2);clear h2 hb2))
 go_loopw [8,9,10,11,12] (fun iv _ _ _ _ wr=>∃ (i:Nat) (s:PS) (F:Nat→Prop),i≤len∧iv= .int .i64 (i:Int)∧MM (6*i) w.heap.size w wr F (w.heap.size+1) w.heap.size lb mp mm dm s) (fun iv _ _ _ _ _=>len - (intOf iv).toNat)
 case atStart=>exact⟨0,s01,F3,by omega,rfl,H3.out⟩
 case round=>
  obtain⟨i,s,F,hi,rfl,hmm⟩:=hrel
  by_cases hlt:i<len
  · obtain⟨b,off,ed,e,rfl,hbl,hed,hwf,d0,d1,d2,d3,d4⟩:=ed_at HL.out hlt
    obtain⟨eo,heo⟩:∃ m,off+i*5=m:=⟨_,rfl⟩
    have hbr:=hmm.b
    have hec:EdC w b (off+i*5) ed:=⟨d0,d1,d2,d3,d4⟩
    have hecr:=hec.below hbr
    rw[heo]at hecr
    have hlv:=lightw_any (hed.below hbr) hwf
    have hnew:=hmm.new
    have hex:EdX (fun q=>F q∨q=mm) wr (.agg #[ed.av,ed.rv,.int .i64 ed.lg,ed.lv,ed.nv]) e:=(EdX.of (F:=fun q=>F q∨q=mm) hed (fun q hq=>hq.elim (hnew.1 q) (fun hq=>by omega))).step (Tn.ofBelow (F:=fun _=>False) hbr) (fun _ _ e=>e.elim) (fun q e=> .inl e)
    have z0:(i:Int)<(len:Int):=by omega
    have z1:(0:Int)≤(i:Int):=by omega
    have d0:=hecr.c0
    have d1:=hecr.c1
    have d2:=hecr.c2
    have d3:=hecr.c3
    have d4:=hecr.c4
    have HE:=aB (aA hecr (aA hex (aA hlv (aA hmm hbr))))
    clear hec hecr hed hwf hlv hbr hmm hex hnew
    go_upto_region 12 with(first
     |(go_at_call 11;refine HE.out.2.2.1.mono ?_;rintro r wv ⟨lt,rfl,hbv,hlb⟩;have HV:=aB (aA hbv hlb);clear hbv hlb;cases lt)
     |(go_at_call 7;refine(gL _).mono ?_;rintro r w5 ⟨rfl,hb5⟩;have H5:=aB (HE.out.2.2.2.2.trans (((HV.out.1).mono HE.out.2.2.2.2.size).trans (hb5.mono (Nat.le_trans HE.out.2.2.2.2.size HV.out.1.size))));clear hb5))
    · go_ret
      exact⟨rfl,H5.out⟩
    · have hlb:=HV.out.2 (by first|rfl|trivial)
      have hv0:=HE.out.1.below HV.out.1
      have e0:=hv0.c0
      have e1:=hv0.c1
      have e2:=hv0.c2
      have e3:=hv0.c3
      have e4:=hv0.c4
      have hcm:=mm_commit HD.out hd30 (HE.out.2.2.2.1.stay HV.out.1) (by omega) (HE.out.2.1.step (Tn.ofBelow (F:=fun _=>False) HV.out.1) (fun _ _ e=>e.elim) (fun q e=> .inl e)) hlb
      have HC:=aB hcm
      clear hlb hv0 hcm d0 d1 d2 d3 d4
      obtain⟨cc,hcc⟩:∃ c,(aO s e).1=c:=⟨_,rfl⟩
      obtain⟨s1,hs1⟩:∃ t,kG s e=t:=⟨_,rfl⟩
      have HCC:=aB (aA hcc hs1)
      clear hcc hs1
      go_upto_region 13 with(go_at_call 14;refine HC.out.mono ?_;rw[HCC.out.1,HCC.out.2];rintro r w6 ⟨rfl,F6,h6,_⟩;have H6:=aB h6;clear h6)
      clear e0 e1 e2 e3 e4
      obtain⟨G6,D6,L6,S6,k6,bo6,sz6,qz6,R6,p6,hm6,hn6,hc6⟩:=H6.out
      have hst:=jT hm6 hn6.gs hn6.nx
      have hlt6:=hm6.ltF
      have hml6:=hm6.lt
      have HST:=aB (aA hst (aA hlt6 hn6.gs))
      clear hst hm6 hn6 hc6 hlt6
      go_upto_region 14 with(go_at_call 19;refine HST.out.1.mono ?_;rintro r w7 ⟨v7,rfl,⟨xv,yv,ov,rfl,o1,o2,o3⟩,hb7⟩;obtain⟨fa,fc,rfl,_,_⟩:=aI o1;obtain⟨la,lc,rfl,_,_⟩:=aI o2;obtain⟨na,nc,rfl,_,_⟩:=aI o3;obtain⟨tfn,htf⟩:∃ n,s1.fs.length=n:=⟨_,rfl⟩;obtain⟨tln,htl⟩:∃ n,s1.fl.length=n:=⟨_,rfl⟩;obtain⟨tnn,htn⟩:∃ n,s1.ns.length=n:=⟨_,rfl⟩;rw[htf,htl,htn];obtain⟨w8,hw8⟩:∃ w8,w7.alloc (.cells #[.slice fa tfn fc,.int .i64 s1.next,.int .i64 s1.log,.slice la tln lc,.slice na tnn nc] 35)=w8:=⟨_,rfl⟩;have hb8:Below w7.heap.size w7 w8:=(by rw[← hw8];exact(Below.refl _ _).alloc (Nat.le_refl _) _);have ho8:eH w8 w7.heap.size (.slice fa tfn fc) (.int .i64 s1.next) (.int .i64 s1.log) (.slice la tln lc) (.slice na tnn nc):=(by rw[← hw8];refine⟨?_,?_,?_,?_,?_,fun j=>?_⟩<;>simp[go_sem]);have hx8:StX (fun q=>F6 q∨q=mm) w8 (.agg #[.slice fa tfn fc,.int .i64 s1.next,.int .i64 s1.log,.slice la tln lc,.slice na tnn nc]) s1:=(by rw[← htf,←htl,←htn];exact kI.stx (B:=w6.heap.size) ⟨_,_,_,rfl,aD o1 hb8,aD o2 hb8,aD o3 hb8⟩ (fun q hq=>hq.elim (HST.out.2.1 q) (fun hq=>by omega)));have hwas:WasAt F6 mm w8 w7.heap.size (.slice fa tfn fc) (.slice la tln lc) (.slice na tnn nc) s1:=⟨ho8,hx8,fun e=>by have:=HST.out.2.1 _ e;have:=hb7.size;omega,fun e=>by have:=hb7.size;omega⟩;have H8:=aB (aA ((H6.out.stay hb7).stay hb8) hwas);clear o1 o2 o3 hb7 hb8 ho8 hx8 hwas htf htl htn)
      clear hw8
      obtain⟨ob,hob⟩:∃ ob,w7.heap.size=ob:=⟨_,rfl⟩
      rw[hob]at H8
      rw[hob]
      clear hob
      obtain⟨x0,hx0⟩:∃ x:Value,Value.slice fa tfn fc=x:=⟨_,rfl⟩
      obtain⟨x3,hx3⟩:∃ x:Value,Value.slice la tln lc=x:=⟨_,rfl⟩
      obtain⟨x4,hx4⟩:∃ x:Value,Value.slice na tnn nc=x:=⟨_,rfl⟩
      rw[hx0,hx3,hx4]at H8
      have HXX:=aB (aA hx0 (aA hx3 hx4))
      clear hx0 hx3 hx4
      have hn4:n≤4:=by omega
      have hn0:0≤n:=by omega
      go_upto_region 15 with fail
      go_loopw [10] (fun jv wx=>∃ (j:Nat) (F9:Nat→Prop),(j:Int)≤n∧jv= .int .i64 (j:Int)∧MM (6*i+2+j) w.heap.size w wx F9 (w.heap.size+1) w.heap.size lb mp mm dm s1∧WasAt F9 mm wx ob x0 x3 x4 s1) (fun jv _=>n.toNat - (intOf jv).toNat)
      case atStart=>exact⟨0,F6,by omega,rfl,H8.out.1,H8.out.2⟩
      case round=>
       obtain⟨j,F9,hj,rfl,hmx,hwx⟩:=hrel
       by_cases hjn:(j:Int)<n
       · have hsw:=mm_swap HD.out hd30 hmx (by omega)
         have HS:=aB (aA hsw hwx)
         clear hsw hmx hwx
         go_wp2_with (go_at_call 16;refine HS.out.1.mono ?_;rintro r w9 ⟨rfl,F10,h9,g9⟩;have H9:=aB (aA h9 (HS.out.2.step g9));clear h9 g9)
         go_roundw
         case rel=>exact⟨j+1,F10,by omega,by go_num,H9.out.1,H9.out.2⟩
         case measure=>simp[intOf];omega
       · have z5:¬ (j:Int)<n:=hjn
         obtain⟨wx,rfl⟩:∃ wx,wx=wr:=⟨_,rfl⟩
         have HM:=aB (aA hmx hwx)
         obtain⟨G9,D9,L9,S9,k9,bo9,sz9,qz9,R9,p9,hm9,hn9,hc9⟩:=hmx
         have htw:=c_twin hm9.ws.d.d hn9.o.fz
         have hro:=fun(v:World) (hv:DS wx.heap.size wx v (aT wx.heap.size (wx.heap.size+1)) wx.heap.size (wx.heap.size+1) D9)=>reopen HD.out hd30 hn9 hc9 (by omega) hv
         have HT:=aB (aA htw (aA hro (aA hm9 (aA hn9.gs hn9.nx))))
         clear htw hro hm9 hn9 hc9 hwx
         go_upto_region 20 with(first
          |(go_at_call 9;refine(HT.out.2.1 _ H10.out).mono ?_;rintro r w11 ⟨F11,G11,lb2,mp2,mm2,rfl,h11,_⟩;have H11:=aB (aA h11 h11.ws.d.b);clear h11)
          |(go_at_call 28;refine HT.out.1.mono ?_;rintro r w10 ⟨rfl,h10⟩;have H10:=aB h10;clear h10))
         have hws:=HM.out.2.1.below H11.out.2
         have hsv:StV w11 (.agg #[x0,.int .i64 s1.next,.int .i64 s1.log,x3,x4]) s1:=HM.out.2.2.1.st.below H11.out.2
         have kd:w11.drew.cell? ⟨ob,0,none⟩=some x0∧w11.drew.cell? ⟨ob,1,none⟩=some (.int .i64 s1.next)∧w11.drew.cell? ⟨ob,2,none⟩=some (.int .i64 s1.log)∧w11.drew.cell? ⟨ob,3,none⟩=some x3∧w11.drew.cell? ⟨ob,4,none⟩=some x4:=hws.and
         have HQ:=aB (aA hws hsv)
         clear hws hsv
         refine dQ (fun w'=>w'.cell? ⟨ob,0,none⟩=some x0∧w'.cell? ⟨ob,1,none⟩=some (.int .i64 s1.next)∧w'.cell? ⟨ob,2,none⟩=some (.int .i64 s1.log)∧w'.cell? ⟨ob,3,none⟩=some x3∧w'.cell? ⟨ob,4,none⟩=some x4) 15 16 (by exact kd) (fun hH=>?_)
         have hb0:Below w11.heap.size w11 w11.drew:=(Below.refl _ _).drew
         have HB0:=aB hb0
         clear hb0 kd
         refine bU [[0,1,2,6,9],[1,2,6,9],[2,6,9],[3,4,6,9],[5,6,9]] hH ?_
         refine bM (i:=4) rfl (fun K hK=>?_)
         go_simp
         go_at_call 19
         refine(jT ((HT.out.2.2.1.stay H11.out.2).stay HB0.out) HT.out.2.2.2.1 HT.out.2.2.2.2).mono ?_
         rintro r v1 ⟨y1,rfl,hy1,hb1⟩
         have hy1':StV v1 y1 s1:=by obtain⟨fv,lv,nv,he,o1,o2,o3⟩:=hy1;exact⟨fv,lv,nv,he,o1.rda,o2.rda,o3.rda⟩
         have V1:=aB (aA (HB0.out.trans (hb1.mono HB0.out.size)) hy1')
         clear hy1 hy1' hb1
         refine bH hK (HQ.out.1.below V1.out.1).and ?_
         clear hK K
         intro hH
         refine bM (i:=6) rfl (fun K hK=>?_)
         go_simp
         go_at_call 21
         refine(msame_any V1.out.2 (HQ.out.2.below V1.out.1) (by have:=HT.out.2.2.2.1.few;omega) (by have:=HT.out.2.2.2.1.fl8;omega) (by have:=HT.out.2.2.2.1.nfew;omega)).mono ?_
         rintro r v2 ⟨rfl,hb2⟩
         have V2:=aB (V1.out.1.trans (hb2.mono V1.out.1.size))
         clear hb2
         refine bH hK (HQ.out.1.below V2.out).and ?_
         clear hK K
         intro hH
         refine bU [[7,8,9],[8,9],[9],[10,11,13,14],[12,13,14]] hH ?_
         refine bM (i:=11) rfl (fun K hK=>?_)
         go_simp
         go_at_call 19
         refine(jT (H11.out.1.stay V2.out) HT.out.2.2.2.1 HT.out.2.2.2.2).mono ?_
         rintro r v3 ⟨y3,rfl,hy3,hb3⟩
         have hy3':StV v3 y3 s1:=by obtain⟨fv,lv,nv,he,o1,o2,o3⟩:=hy3;exact⟨fv,lv,nv,he,o1.rda,o2.rda,o3.rda⟩
         have V3:=aB (aA (V2.out.trans (hb3.mono V2.out.size)) hy3')
         clear hy3 hy3' hb3
         refine bH hK (HQ.out.1.below V3.out.1).and ?_
         clear hK K
         intro hH
         refine bM (i:=13) rfl (fun K hK=>?_)
         go_simp
         go_at_call 21
         refine(msame_any V3.out.2 (HQ.out.2.below V3.out.1) (by have:=HT.out.2.2.2.1.few;omega) (by have:=HT.out.2.2.2.1.fl8;omega) (by have:=HT.out.2.2.2.1.nfew;omega)).mono ?_
         rintro r v4 ⟨rfl,hb4⟩
         have V4:=aB (V3.out.1.trans (hb4.mono V3.out.1.size))
         clear hb4
         refine bH hK (HQ.out.1.below V4.out).and ?_
         clear hK K
         intro hH
         refine bU [[14]] hH ?_
         refine eU ?_
         clear hH
         go_wp2_with fail
         go_roundw
         case rel=>exact⟨i+1,s1,F9,by omega,by go_num,((HM.out.1.stay H11.out.2).stay V4.out).mono (by omega)⟩
         case measure=>simp[intOf];omega
  · obtain rfl:i=len:=by omega
    have z0:¬ (i:Int)<(i:Int):=by omega
    have HM:=aB hmm.b
    clear hmm
    go_wp2_with (go_at_call 7;refine(gL _).mono ?_;rintro r w5 ⟨rfl,hb5⟩;have H5:=aB (HM.out.trans (hb5.mono HM.out.size));clear hb5)
    go_ret
    exact⟨rfl,H5.out⟩
end
end Go.Proofs.YtpfibkgmfapnjaaGreatDoor
