/- Manifest: the laws' first call, by calls of a manifest that says its state. -/
import Derived.Test.YtpfibkgmfapnjaaGreatDoorS42
set_option linter.unusedSimpArgs false
set_option linter.unusedVariables false
namespace Go.Proofs.YtpfibkgmfapnjaaGreatDoor
section
open Go.RowKit
variable {w w' w0:World} {F F' G G' H:Nat→Prop} {B db mb lb mp mm fb c:Nat} {dir:ByteArray} {s:PS}
theorem edAX (h:FiB w fb fA) (hF:¬ F fb):EdX F w (.agg #[.slice (some ⟨fb,0,none⟩) 1 1,.slice none 0 0,.int .i64 0,.slice none 0 0,.slice none 0 0]) eA:=by
 refine⟨_,_,_,_,rfl,⟨some ⟨fb,0,none⟩,1,rfl,Nat.le_refl _,by omega,(fun e=>by cases e),.inr ⟨fb,0,rfl,hF,h.lt,fun i hi j u hu=>?_⟩⟩,⟨none,0,rfl,Nat.le_refl _,by decide,fun _=>rfl,.inl rfl⟩,⟨none,0,rfl,Nat.le_refl _,by decide,fun _=>rfl,.inl rfl⟩,⟨none,0,rfl,Nat.le_refl _,by decide,fun _=>rfl,.inl rfl⟩⟩
 have hi0:i=0:=by simp[eA]at hi;omega
 subst hi0
 have hu:fA.cells[j]?=some u:=hu
 have hj:j<6:=(List.getElem?_eq_some_iff.1 hu).1
 rw[show 0+0*6+j=j by omega]
 rcases(by omega:j=0∨j=1∨j=2∨j=3∨j=4∨j=5)with rfl|rfl|rfl|rfl|rfl|rfl
 · exact h.c0.trans hu
 · exact h.c1.trans hu
 · exact h.c2.trans hu
 · exact h.c3.trans hu
 · exact h.c4.trans hu
 · exact h.c5.trans hu
theorem aF.apart {D:Dk} (h:aF F w db mb D) (hz:D.fuse=none) (ht:Tn H w w') (hH:∀ q,H q→¬ F q):aF F w' db mb D:=by
 have hd:¬ H db:=fun e=>hH db e h.fd
 have hm:¬ H mb:=fun e=>hH mb e h.fm
 obtain⟨p,hp,hf⟩:=h.c3
 rw[hz]at hf
 exact⟨ht.cell h.c0 hd,ht.cell h.c1 hd,ht.cell h.c2 hd,⟨p,ht.cell hp hd,by rw[hz];exact hf⟩,ht.cell h.c4 hd,h.m.tn ht hm,fun j=>(ht.frozen (p:=⟨db,j,none⟩) h.ltd hd).trans (h.fz j),h.ok,h.ne,h.fd,h.fm,fun q hq=>Nat.lt_of_lt_of_le (h.lt q hq) ht.size⟩
theorem MM.aside (h:MM c B w0 w F db mb lb mp mm dir s) (ht:Tn H w w') (hH:∀ q,H q→¬ F q∧q≠mm∧B≤q) (hs:s.fs=[]∧s.fl=[]∧s.ns=[]):MM c B w0 w' F db mb lb mp mm dir s:=by
 obtain⟨G,D,L,S,k,bo,s0,q0,R,p,h1,h2,h3⟩:=h
 exact⟨G,D,L,S,k,bo,s0,q0,R,p,h1.aside ⟨⟨h1.ws.d.d.apart h2.o.fz ht (fun q e k=>k.elim (hH q e).1 (hH q e).2.1),h1.ws.d.new,h1.ws.d.b.trans (ht.below h1.ws.d.hz (fun q e=>(hH q e).2.2)),Nat.le_trans h1.ws.d.hz ht.size⟩,h1.ws.l.tn ht (fun q e k=>(h1.ws.sub q e).1.elim (hH q k).1 (hH q k).2.1),h1.ws.sub⟩ ht (fun e=>(hH mm e).2.1 rfl) hs,h2,h3⟩
theorem MM.ms (h:MM c B w0 w F db mb lb mp mm dir s):∃ G D L p,MS B w0 w F G db mb lb mp mm D L dir s p false:=by
 obtain⟨G,D,L,S,k,bo,s0,q0,R,p,h1,h2,h3⟩:=h
 exact⟨G,D,L,p,h1⟩
set_option maxRecDepth 100000 in
set_option maxHeartbeats 8000000 in
theorem gL (w:World):Calls Tryz.prog 7 #[] w fun e w'=>e= .returned (.bool true)∧Below w.heap.size w w':=by
 have hdm:dG dm=true:=by kernel_rfl
 have hd30:dm.size≤30:=by decide
 have HD:=aB hdm
 clear hdm
 go_enter Tryz.func7,Tryz.ntmps7
 go_upto_region 3 with(first
  |(go_at_call 9;refine(mm_new (dir:=dm) HD.out hd30 H1.out).mono ?_;rintro r w2 ⟨F2,lb,mp,mm,rfl,h2⟩;obtain⟨fb,hfb⟩:∃ m,w2.heap.size=m:=⟨_,rfl⟩;obtain⟨w3,hw3⟩:∃ w3,w2.alloc (.cells #[.int .i64 0,.int .i64 1,.int .i64 1,.int .i64 5,.string ⟨#[97]⟩,.string ⟨#[98]⟩] 79)=w3:=⟨_,rfl⟩;obtain⟨eb,heb⟩:∃ m,w3.heap.size=m:=⟨_,rfl⟩;obtain⟨w4,hw4⟩:∃ w4,w3.alloc (.cells #[.slice none 0 0,.slice none 0 0,.int .i64 0,.slice none 0 0,.slice none 0 0] 56)=w4:=⟨_,rfl⟩;have hb3:Below w2.heap.size w2 w3:=(by rw[← hw3];exact(Below.refl _ _).alloc (Nat.le_refl _) _);have hb4:Below w3.heap.size w3 w4:=(by rw[← hw4];exact(Below.refl _ _).alloc (Nat.le_refl _) _);have hf3:FiB w3 fb fA:=(by rw[← hw3,←hfb];exact FiB.made w2 fA);have ho4:eH w4 eb (.slice none 0 0) (.slice none 0 0) (.int .i64 0) (.slice none 0 0) (.slice none 0 0):=(by rw[← hw4,←heb];refine⟨?_,?_,?_,?_,?_,fun j=>?_⟩<;>simp[go_sem]);have hsz:eb=fb+1:=(by rw[← heb,←hw3,←hfb];simp);have H4:=aB (aA ((h2.stay hb3).stay hb4) (aA (hf3.below hb4) (aA ho4 (aA hfb (aA hsz h2)))));have z0:=ho4.z0;have z1:=ho4.z1;have z2:=ho4.z2;have z3:=ho4.z3;have z4:=ho4.z4;have f0:=ho4.zf 0;have f1:=ho4.zf 1;have f2:=ho4.zf 2;have f3:=ho4.zf 3;have f4:=ho4.zf 4;clear h2 hb3 hb4 hf3 ho4 hsz)
  |(go_at_call 8;refine(c_newd (w0:=w) (Below.refl _ _)).mono ?_;rintro e w1 ⟨rfl,h1,_⟩;have H1:=aB h1;clear h1))
 obtain⟨w5,hw5⟩:∃ w5,(((((w4.setCell ⟨eb,0,none⟩ (.slice (some ⟨fb,0,none⟩) 1 1)).setCell ⟨eb,1,none⟩ (.slice none 0 0)).setCell ⟨eb,2,none⟩ (.int .i64 0)).setCell ⟨eb,3,none⟩ (.slice none 0 0)).setCell ⟨eb,4,none⟩ (.slice none 0 0))=w5:=⟨_,rfl⟩
 rw[hw5]
 have t5:Tn (fun q=>q=eb) w4 w5:=by rw[← hw5];exact tn5
 have hO5:eH w5 eb (.slice (some ⟨fb,0,none⟩) 1 1) (.slice none 0 0) (.int .i64 0) (.slice none 0 0) (.slice none 0 0):=by rw[← hw5];exact cells5 H4.out.2.2.1
 obtain⟨hBF,hBm,hlF,hlm,hBz⟩:=H4.out.2.2.2.2.2.new
 have hfb:=H4.out.2.2.2.1
 have hes:=H4.out.2.2.2.2.1
 have hM5:=H4.out.1.aside t5 (fun q e=>by subst e;exact⟨fun e=>by have:=hlF _ e;omega,by omega,by omega⟩) ⟨rfl,rfl,rfl⟩
 have hF5:=H4.out.2.1.tnH t5 (by omega)
 have hnF:∀ q,fb≤q→¬ (F2 q∨q=mm):=fun q hq e=>e.elim (fun e=>by have:=hlF _ e;omega) (fun e=>by omega)
 have HN:=aB (aA hnF hes)
 have hlm2:mm<fb:=by omega
 have hb5:=(Below.refl w5.heap.size w5).drew
 have HV0:=aB (aA (hM5.stay hb5) (aA (hF5.below hb5) (hO5.below hb5)))
 clear hBF hBm hb5 hM5 hF5 hO5 t5 hw5 z0 z1 z2 z3 z4 f0 f1 f2 f3 f4 hw3 hw4 hlF hlm hBz hfb hes hnF heb
 refine dQ (fun w'=>w'.cell? ⟨eb,0,none⟩=some (.slice (some ⟨fb,0,none⟩) 1 1)∧w'.cell? ⟨eb,1,none⟩=some (.slice none 0 0)∧w'.cell? ⟨eb,2,none⟩=some (.int .i64 0)∧w'.cell? ⟨eb,3,none⟩=some (.slice none 0 0)∧w'.cell? ⟨eb,4,none⟩=some (.slice none 0 0)) 7 8 HV0.out.2.2.and (fun hH=>?_)
 refine bU [[0],[1],[3],[4]] hH ?_
 refine bM (i:=2) rfl (fun K hK=>?_)
 go_simp
 go_at_call 14
 refine(mm_commit HD.out hd30 HV0.out.1 (by decide) (edAX HV0.out.2.1 (HN.out.1 _ (Nat.le_refl _))) (by decide)).mono ?_
 rintro r v1 ⟨rfl,F5,hm5,ht5⟩
 rw[show kG s01 eA=s02 by unfold kG;rw[aA1];rfl]at hm5
 rw[aA1]
 have hF5:¬ (F5 fb∨fb=mm):=fun e=>e.elim (fun e=>(ht5.n fb e).elim (fun e=>HN.out.1 _ (Nat.le_refl _) (.inl e)) (fun e=>by have:=HV0.out.2.1.lt;omega)) (fun e=>HN.out.1 _ (Nat.le_refl _) (.inr e))
 have hle:fb≤eb:=by have:=HN.out.2;omega
 have hE5:¬ (F5 eb∨eb=mm):=fun e=>e.elim (fun e=>(ht5.n eb e).elim (fun e=>HN.out.1 _ hle (.inl e)) (fun e=>by have:=HV0.out.2.2.lt;omega)) (fun e=>HN.out.1 _ hle (.inr e))
 have HF5:=aB (aA hF5 hE5)
 have HV1:=aB (aA hm5 (aA (HV0.out.2.1.tnH ht5.t (HN.out.1 _ (Nat.le_refl _))) (HV0.out.2.2.tnH ht5.t (HN.out.1 _ (by have:=HN.out.2;omega)))))
 clear hm5 ht5 hF5 hle hE5
 refine bH hK HV1.out.2.2.and ?_
 clear hK K
 intro hH
 refine bM (i:=5) rfl (fun K hK=>?_)
 go_simp
 go_at_call 14
 refine(mm_commit HD.out hd30 HV1.out.1 (by decide) (edAX HV1.out.2.1 HF5.out.1) (by decide)).mono ?_
 rintro r v2 ⟨rfl,F6,hm6,ht6⟩
 rw[show kG s02 eA=s02 by unfold kG;rw[aA2];rfl]at hm6
 rw[aA2]
 have HV2:=aB (aA hm6 (HV1.out.2.2.tnH ht6.t HF5.out.2))
 clear hm6 ht6
 refine bH hK HV2.out.2.and ?_
 clear hK K
 intro hH
 refine bU [[6]] hH ?_
 refine eU ?_
 clear hH
 obtain⟨G6,D6,L6,p6,hms⟩:=HV2.out.1.ms
 have HV3:=aB hms
 clear hms
 have hml:=HV3.out.lt
 go_wp2_with (first
  |(go_at_call 22;refine(mstuck_c (db:=w.heap.size+1) (stuck:=false) (tn5.cell HQ.out.1 (by show ¬ mm=tb;omega)) (tn5.cell HQ.out.2.1 (by show ¬ mm=tb;omega))).mono ?_;rintro r v5 ⟨rfl,rfl⟩)
  |(go_at_call 19;refine(jT HV3.out good02 (by decide)).mono ?_;rintro r v3 ⟨sv,rfl,⟨fv,lv,nv,rfl,o1,o2,o3⟩,hb3⟩;obtain⟨fa,fc,rfl,_,_⟩:=aI o1;obtain⟨la,lc,rfl,_,_⟩:=aI o2;obtain⟨na,nc,rfl,_,_⟩:=aI o3;rw[show s02.fs.length=1 from rfl,show s02.next=2 from rfl,show s02.log=0 from rfl,show s02.fl.length=0 from rfl,show s02.ns.length=0 from rfl];obtain⟨tb,htb⟩:∃ m,v3.heap.size=m:=⟨_,rfl⟩;obtain⟨v4,hv4⟩:∃ w5,v3.alloc (.cells #[.slice none 0 0,.int .i64 0,.int .i64 0,.slice none 0 0,.slice none 0 0] 35)=w5:=⟨_,rfl⟩;have hb4:Below v3.heap.size v3 v4:=(by rw[← hv4];exact(Below.refl _ _).alloc (Nat.le_refl _) _);have hz4:gG v4 tb:=(by rw[← hv4,←htb];exact gG.made v3);have hM4:=(HV3.out.stay hb3).stay hb4;have hmt:mm<tb:=(by have:=hb3.size;omega);have HQ:=aB (aA hM4.c0 (aA hM4.c9 (aA hM4.ws.d (aA hmt hz4))));have z0:=hz4.z0;have z1:=hz4.z1;have z2:=hz4.z2;have z3:=hz4.z3;have z4:=hz4.z4;have f0:=hz4.zf 0;have f1:=hz4.zf 1;have f2:=hz4.zf 2;have f3:=hz4.zf 3;have f4:=hz4.zf 4;clear o1 o2 o3 hb3 hb4 hz4 hM4))
 go_ret
 have hmt:=HQ.out.2.2.2.1
 have hnew:=HV3.out.new
 exact⟨rfl,HQ.out.2.2.1.b.trans (tn5.below HQ.out.2.2.1.hz (fun q hq=>by subst hq;omega))⟩
end
end Go.Proofs.YtpfibkgmfapnjaaGreatDoor
