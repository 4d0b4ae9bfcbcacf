/- Manifest: the walk of Swap: all laid down anew. -/
import Derived.Test.YtpfibkgmfapnjaaGreatDoorS36
import Derived.Test.YtpfibkgmfapnjaaGreatDoorS35
import Derived.Test.YtpfibkgmfapnjaaGreatDoorS3
set_option linter.unusedSimpArgs false
set_option linter.unusedVariables false
namespace Go.Proofs.YtpfibkgmfapnjaaGreatDoor
section
open Go.RowKit
variable {w w' w0:World} {F F' G G' H:Nat→Prop} {B db mb lb mp mm k n:Nat} {D D':Dk} {L L':Lg} {S:List (Nat×Fl)} {dir dr b:ByteArray} {s t:PS} {e:PE} {seq:Int} {stuck:Bool} {v:Value}
def fB (s:PS):PE:=⟨s.fs,[],s.log,s.fl,s.ns⟩
def cM (s:PS) (q:Int):List UInt8:=(aS q++aS s.next)++eE (fB s)
def sum4 (l:List UInt8):List UInt8:=Rw.beF 4 (Rw.sumF l)
def cT (s:PS) (q:Int):ByteArray:=⟨(sum4 (cM s q)++cM s q).toArray⟩
theorem cR.laid (h:cR s):LaidOk (fB s):=by
 refine⟨h.val,by have:=h.few;show s.fs.length≤_;omega,fun n hn=>by simp[fB]at hn,by simp[fB],h.log,h.fl,fun p hp=>?_,by have:=h.nfew;show s.ns.length≤_;omega⟩
 have h1:=(h.note p hp).1
 unfold dB at h1
 simp only[Bool.and_eq_true,decide_eq_true_eq]at h1
 omega
theorem notesL_len:∀ l:List KV,(∀ p∈l,p.1.size≤500)→(l.flatMap ntL).length≤518*l.length+aJ l
 |[],_=>Nat.zero_le _
 |p::l,h=>by
  have h1:=notesL_len l (fun q hq=>h q (List.mem_cons_of_mem _ hq))
  have h2:=h p (by simp)
  have h3:=eY p.1
  have h4:=eY p.2
  have h5:aJ (p::l)=p.2.size+aJ l:=rfl
  have h6:(ntL p).length=(dY p.1).length+(dY p.2).length:=List.length_append
  rw[List.flatMap_cons,List.length_append,List.length_cons,h5,h6]
  omega
theorem snapL_len (h:cR s) (q:Int):(cM s q).length≤700000:=by
 have hl:=h.laid
 have h1:=(aR q).2
 have h2:=(aR s.next).2
 have h3:=fZ (f:=fiL) (K:=1100) s.fs (fun x hx=>fiL_len (h.val x hx))
 have h4:=notesL_len s.ns (fun p hp=>(hl.ns p hp).1)
 have h5:=h.nfew
 have h6:=h.few
 have h7:=flL_len h.fl
 have e1:=(aR (s.fs.length:Int)).2
 have e2:=(aR (0:Int)).2
 have e3:=(aR s.log).2
 have e4:=(aR ((flL s.fl).length:Int)).2
 have e5:=(aR (s.ns.length:Int)).2
 have e6:cM s q=(aS q++aS s.next)++(aS s.fs.length++s.fs.flatMap fiL++aS (0:Int)++[]++(aS s.log++(aS (flL s.fl).length++flL s.fl)++aS s.ns.length)++s.ns.flatMap ntL):=rfl
 rw[e6]
 simp only[List.length_append,List.length_nil]
 omega
theorem lD (l:List UInt8):(sum4 l).length=4:=Rw.beF_len _ _
theorem kM (h:cR s) (q:Int):(cT s q).size≤700004:=by
 have:=snapL_len h q
 unfold cT
 rw[bQ,List.length_append,lD]
 omega
theorem lg_last_ok (h:L.Ok):0≤L.last∧L.last≤4294967295:=by
 unfold Lg.last
 rcases List.eq_nil_or_concat L.m with e|⟨A,p,e⟩
 · rw[e];simp
 · have:=h.key p (by rw[e];simp)
   rw[e]
   simp
   omega
structure SwPre (dir:ByteArray) (D:Dk) (L:Lg) (b:ByteArray):Prop where
 on:D.on=true
 acts:D.acts+40≤1000000
 last:∃ n:Nat,n<4294967296∧L.last=(n:Int)
 rot:(L.rotate D).1=0→(L.rotate D).2.1.on=true∧(L.rotate D).2.1.acts+40≤1000000
 mwr:(L.rotate D).1=0→(mwr (L.rotate D).2.1 (bY dir) (bP dir) b).1=0→(mwr (L.rotate D).2.1 (bY dir) (bP dir) b).2.on=true∧(mwr (L.rotate D).2.1 (bY dir) (bP dir) b).2.acts+20000≤1000000
def SwapE (B:Nat) (w0 w:World) (F:Nat→Prop) (db mb lb mp mm:Nat) (dir:ByteArray) (s:PS) (seq:Int) (x:Int×Dk×Lg) (r:Ending) (w':World):Prop:=
 r= .returned (.int .i64 x.1)∧∃ F' G':Nat→Prop,MS B w0 w' F' G' db mb lb mp mm x.2.1 x.2.2 dir s seq (decide (x.1=20))∧Tn (fun q=>F q∨q=mm) w w'∧(∀ q,F' q→F q∨w.heap.size≤q)∧(∀ q,F q→F' q)
theorem swap_end {x:Int×Dk×Lg} {w1:World} (h:MS B w0 w1 F' G' db mb lb mp mm x.2.1 x.2.2 dir s seq stuck) (a:fV F F' w w1):Calls Tryz.prog 49 #[.pointer (some ⟨mm,0,none⟩),.int .i64 x.1] w1 (SwapE B w0 w F db mb lb mp mm dir s seq x):=by
 refine(mdone_at h x.1).mono ?_
 rintro r w2 ⟨rfl,h2,hw2⟩
 refine⟨rfl,F',G',h2,?_,a.n,a.g⟩
 rw[hw2]
 exact(a.t.mono (fun q e=> .inl e)).trans (tn_setS.mono (fun q e=> .inr e))
set_option maxRecDepth 100000 in
set_option maxHeartbeats 8000000 in
theorem swap_any (h:MS B w0 w F G db mb lb mp mm D L dir s seq false) (hg:cR s) (hseq:0≤seq∧seq≤1000000) (hd30:dir.size≤30) (p:SwPre dir D L (cT s seq)):
 Calls Tryz.prog 16 #[.pointer (some ⟨mm,0,none⟩)] w (SwapE B w0 w F db mb lb mp mm dir s seq (dC dir D L (cT s seq))):=by
 obtain⟨fv,lv,nv,h3,h4,h5,h6,h7,hst⟩:=h.st
 have hst0:=hst
 obtain⟨fv',lv',nv',hee,q1,q2,q3⟩:=hst0
 simp only[Value.agg.injEq,Array.mk.injEq,List.cons.injEq,true_and,and_true]at hee
 obtain⟨rfl,rfl,rfl⟩:=hee
 obtain⟨fa,fc,rfl,_⟩:=q1
 obtain⟨la,lc,rfl,_⟩:=q2
 obtain⟨na,nc,rfl,_⟩:=q3
 obtain⟨fn,hfn⟩:∃ n,s.fs.length=n:=⟨_,rfl⟩
 obtain⟨ln',hln'⟩:∃ n,s.fl.length=n:=⟨_,rfl⟩
 obtain⟨nn,hnn⟩:∃ n,s.ns.length=n:=⟨_,rfl⟩
 rw[hfn,hln',hnn]at hst
 rw[hfn]at h3
 rw[hln']at h6
 rw[hnn]at h7
 have hmb:MmB w mm db lb dir (.slice fa fn fc) (.int .i64 s.next) (.int .i64 s.log) (.slice la ln' lc) (.slice na nn nc) seq false:=⟨h.c0,h.c1,h.c2,h3,h4,h5,h6,h7,h.c8,h.c9⟩
 obtain⟨n1,tn1,zn1,cn1⟩:=fH seq w hseq.1 (by omega)
 obtain⟨n2,tn2,zn2,cn2⟩:=fH s.next w (by have:=hg.next;omega) (by have:=hg.next;omega)
 have hlen:=snapL_len hg seq
 obtain⟨l3,hl3⟩:∃ l3:ByteArray,(⟨(eE (fB s)).toArray⟩:ByteArray)=l3:=⟨_,rfl⟩
 have tl3:Tx l3 (eE (fB s)):=hl3.symm
 have zl3:l3.size≤700000:=by
  rw[tl3.size]
  unfold cM at hlen
  rw[List.length_append]at hlen
  omega
 obtain⟨x,hx⟩:∃ x:ByteArray,n1++n2++l3=x:=⟨_,rfl⟩
 have tx:Tx x (cM s seq):=by rw[← hx];exact(tn1.add tn2).add tl3
 have zx:x.size≤700000:=by rw[tx.size];exact hlen
 obtain⟨y,hy⟩:∃ y:ByteArray,(⟨(sum4 (cM s seq)).toArray⟩:ByteArray)=y:=⟨_,rfl⟩
 have zy:y.size=4:=by rw[← hy,bQ,lD]
 have hxy:y++x=cT s seq:=by rw[tx,←hy];exact str_add _ _
 have hlaid:∀ u,Below w.heap.size w u→Calls Tryz.prog 46 #[.agg #[(.slice fa fn fc),.slice none 0 0,.int .i64 s.log,(.slice la ln' lc),(.slice na nn nc)]] u fun r w'=>r= .returned (.string l3)∧Below u.heap.size u w':=fun u hu=>by
  obtain⟨fv',lv',nv',he,q1,q2,q3⟩:=hst.st
  simp only[Value.agg.injEq,Array.mk.injEq,List.cons.injEq,true_and,and_true]at he
  obtain⟨rfl,rfl,rfl⟩:=he
  have:=laid_any (w:=u) (e:=fB s) ⟨_,_,_,_,rfl,q1.below hu,mA.nil u,q2.below hu,q3.below hu⟩ hg.laid
  rw[hl3]at this
  exact this
 have hsum:∀ u,Calls Tryz.prog 55 #[.string x] u fun e w'=>e= .returned (.int .i64 (Rw.sumF (cM s seq):Int))∧u=w':=fun u=>by
  have:=sum_any x u (by unfold maxLen;omega)
  rw[tx.list]at this
  exact this
 have hput:∀ u,Calls Tryz.prog 54 #[.int .i64 (Rw.sumF (cM s seq):Int),.int .i64 4] u fun e w'=>e= .returned (.tuple #[.string y,.int .i64 0])∧Below u.heap.size u w':=fun u=>by
  have:=put_ok (Rw.sumF (cM s seq)) 4 u (by omega) (by omega) (Nat.lt_of_lt_of_le (Rw.sumF_lt _) (by decide))
  unfold sum4 at hy
  rw[hy]at this
  exact this
 obtain⟨sm,hsm⟩:∃ sm,Rw.sumF (cM s seq)=sm:=⟨_,rfl⟩
 rw[hsm]at hsum hput
 obtain⟨bb,hbb⟩:∃ bb,cT s seq=bb:=⟨_,rfl⟩
 have hbz:bb.size≤140737488351232:=by rw[← hbb];have:=kM hg seq;omega
 rw[hbb]at hxy p ⊢
 have b1:¬ 9223372036854775807<n1.size+n2.size:=by omega
 have b2:¬ 9223372036854775807<n1.size+n2.size+l3.size:=by omega
 have b3:¬ 9223372036854775807<y.size+x.size:=by omega
 have HP:=aB p
 have HC:=aB (aA cn1 (aA cn2 (aA hlaid (aA hsum hput))))
 have HX:=aB (aA hx hxy)
 have HM:=aB (aA h hmb)
 have hno:=jD h.c0
 have HNO:=aB hno
 have c9:=h.c9
 have hml:=h.lt
 clear p cn1 cn2 hlaid hsum hput hx hxy h hmb hno tn1 tn2 tl3 tx hsm hy hl3 hst hlen hfn hln' hnn h3 h4 h5 h6 h7 hbb hg
 go_enter Tryz.func16,Tryz.ntmps16
 go_upto_region 5 with(go_at_call 43;go_loud (refine HNO.out.mono ?_);rintro r w2 ⟨rfl,rfl⟩)
 clear c9
 have kd:w.drew.cell? ⟨mm,3,none⟩=some (.slice fa fn fc)∧w.drew.cell? ⟨mm,4,none⟩=some (.int .i64 s.next)∧w.drew.cell? ⟨mm,5,none⟩=some (.int .i64 s.log)∧w.drew.cell? ⟨mm,6,none⟩=some (.slice la ln' lc)∧w.drew.cell? ⟨mm,7,none⟩=some (.slice na nn nc)∧w.drew.cell? ⟨mm,8,none⟩=some (.int .i64 seq):=by
  have:=HM.out.2.below (Below.refl _ _).drew
  exact⟨this.c3,this.c4,this.c5,this.c6,this.c7,this.c8⟩
 refine dQ (fun w'=>w'.cell? ⟨mm,3,none⟩=some (.slice fa fn fc)∧w'.cell? ⟨mm,4,none⟩=some (.int .i64 s.next)∧w'.cell? ⟨mm,5,none⟩=some (.int .i64 s.log)∧w'.cell? ⟨mm,6,none⟩=some (.slice la ln' lc)∧w'.cell? ⟨mm,7,none⟩=some (.slice na nn nc)∧w'.cell? ⟨mm,8,none⟩=some (.int .i64 seq)) 35 36 kd (fun hH=>?_)
 refine bU [[0],[1],[2],[3],[5],[6],[7],[8],[9],[12],[13],[14],[15],[16],[17],[18],[19],[20],[21],[22],[23],[24],[25],[26],[27],[28],[29],[30],[31],[32]] hH ?_
 refine bM (i:=4) rfl (fun K hK=>?_)
 go_simp
 go_at_call 45
 refine(HC.out.1 _).mono ?_
 rintro r w2 ⟨rfl,hb2'⟩
 have hb2:Below w.heap.size w w2:=(Below.refl w.heap.size w).drew.trans hb2'
 have kd2:w2.cell? ⟨mm,3,none⟩=some (.slice fa fn fc)∧w2.cell? ⟨mm,4,none⟩=some (.int .i64 s.next)∧w2.cell? ⟨mm,5,none⟩=some (.int .i64 s.log)∧w2.cell? ⟨mm,6,none⟩=some (.slice la ln' lc)∧w2.cell? ⟨mm,7,none⟩=some (.slice na nn nc)∧w2.cell? ⟨mm,8,none⟩=some (.int .i64 seq):=by
  have:=HM.out.2.below hb2
  exact⟨this.c3,this.c4,this.c5,this.c6,this.c7,this.c8⟩
 have H2:=aB hb2
 clear hb2 hb2' kd
 refine bH hK kd2 ?_
 clear hK K
 intro hH
 refine bM (i:=10) rfl (fun K hK=>?_)
 go_simp
 go_at_call 45
 refine(HC.out.2.1 _).mono ?_
 rintro r w3 ⟨rfl,hb3'⟩
 have hb3:Below w.heap.size w w3:=H2.out.trans (hb3'.mono H2.out.size)
 have kd3:w3.cell? ⟨mm,3,none⟩=some (.slice fa fn fc)∧w3.cell? ⟨mm,4,none⟩=some (.int .i64 s.next)∧w3.cell? ⟨mm,5,none⟩=some (.int .i64 s.log)∧w3.cell? ⟨mm,6,none⟩=some (.slice la ln' lc)∧w3.cell? ⟨mm,7,none⟩=some (.slice na nn nc)∧w3.cell? ⟨mm,8,none⟩=some (.int .i64 seq):=by
  have:=HM.out.2.below hb3
  exact⟨this.c3,this.c4,this.c5,this.c6,this.c7,this.c8⟩
 have H3:=aB hb3
 clear hb3 hb3' kd2
 refine bH hK kd3 ?_
 clear hK K
 intro hH
 refine bU [[11]] hH ?_
 refine bM (i:=33) rfl (fun K hK=>?_)
 go_simp
 go_at_call 46
 refine(HC.out.2.2.1 _ H3.out).mono ?_
 rintro r w4 ⟨rfl,hb4'⟩
 have hb4:Below w.heap.size w w4:=H3.out.trans (hb4'.mono H3.out.size)
 have kd4:w4.cell? ⟨mm,3,none⟩=some (.slice fa fn fc)∧w4.cell? ⟨mm,4,none⟩=some (.int .i64 s.next)∧w4.cell? ⟨mm,5,none⟩=some (.int .i64 s.log)∧w4.cell? ⟨mm,6,none⟩=some (.slice la ln' lc)∧w4.cell? ⟨mm,7,none⟩=some (.slice na nn nc)∧w4.cell? ⟨mm,8,none⟩=some (.int .i64 seq):=by
  have:=HM.out.2.below hb4
  exact⟨this.c3,this.c4,this.c5,this.c6,this.c7,this.c8⟩
 have hm4:=HM.out.1.stay hb4
 have H4:=aB (aA hm4 hb4)
 clear hb4 hb4' kd3 hm4
 refine bH hK kd4 ?_
 clear hK K
 intro hH
 refine bU [[34]] hH ?_
 refine eU ?_
 clear hH kd4
 rw[HX.out.1]
 have m2:=H4.out.1.c2
 obtain⟨r1,hr1⟩:∃ r1,L.rotate D=r1:=⟨_,rfl⟩
 obtain⟨c1,hc1⟩:∃ c,r1.1=c:=⟨_,rfl⟩
 obtain⟨r2,hr2⟩:∃ r2,mwr r1.2.1 (bY dir) (bP dir) bb=r2:=⟨_,rfl⟩
 obtain⟨c2,hc2⟩:∃ c,r2.1=c:=⟨_,rfl⟩
 obtain⟨r3,hr3⟩:∃ r3,r1.2.2.drop r2.2 (r1.2.2.last+1)=r3:=⟨_,rfl⟩
 obtain⟨c3,hc3⟩:∃ c,r3.1=c:=⟨_,rfl⟩
 have hsw:dC dir D L bb=if c1≠0 then r1 else if c2≠0 then(r2.1,r2.2,r1.2.2)else r3:=by
  rw[← hc1,←hc2,←hr3,←hr2,←hr1]
  rfl
 have hP:=HP.out
 have hpr:=hP.rot
 have hpm:=hP.mwr
 rw[hr1]at hpr hpm
 rw[hr2]at hpm
 rw[hc1]at hpr hpm
 rw[hc2]at hpm
 have HSW:=aB hsw
 have hon:=hP.on
 have hacts:=hP.acts
 obtain⟨ln,hln,hlast⟩:=hP.last
 have HL:=aB (aA hln (aA hlast (aA hon (aA hacts (aA hpr hpm)))))
 have HRR:=aB (aA hr1 (aA hr2 (aA hr3 (aA hc1 (aA hc2 hc3)))))
 clear hlast hln hon hacts hpr hpm hP hsw hr1 hr2 hr3 hc1 hc2 hc3
 go_upto_region 8 with(first
  |(go_at_call 56;refine(w_rotate H5.out.1.ws.l H5.out.1.ws.d.d H5.out.1.ws.sub HL.out.2.2.1 HL.out.2.2.2.1 HL.out.1 HL.out.2.1).mono ?_;rw[HRR.out.1];intro r w7 hb7;obtain⟨rfl,G7,F7,hm7,s7⟩:=H5.out.1.kept (hb7.kept H5.out.1.ws.sub);rw[HRR.out.2.2.2.1];have H7:=aB (aA hm7 ((fV.below (F:=F) H5.out.2).trans s7));clear hb7 s7 hm7)
  |(go_at_call 54;refine(HC.out.2.2.2.2 _).mono ?_;rintro r w5 ⟨rfl,hb5⟩;have hm5:=H4.out.1.stay hb5;have m2:=hm5.c2;have H5:=aB (aA hm5 (H4.out.2.trans (hb5.mono H4.out.2.size)));clear hb5 hm5)
  |(go_at_call 55;refine(HC.out.2.2.2.1 _).mono ?_;rintro r wS ⟨rfl,rfl⟩))
 clear m2
 by_cases h1:c1=0
 · subst h1
   obtain⟨on1,ac1⟩:=HL.out.2.2.2.2.1 rfl
   have hpm:=HL.out.2.2.2.2.2 rfl
   have m0:=H7.out.1.c0
   have m1:=H7.out.1.c1
   have gm:¬ aT db mb mm:=H7.out.1.n2
   have hW:=w_mwr (b:=bb) m0 m1 gm H7.out.1.ws.d.d on1 (by omega) hbz hd30
   rw[HRR.out.2.1,HRR.out.2.2.2.2.1]at hW
   have HW:=aB hW
   have HPM:=aB hpm
   clear hW hpm m0 m1 gm on1 ac1
   go_upto_region 10 with(go_at_call 57;rw[HX.out.2];refine HW.out.mono ?_;rintro r w8 ⟨rfl,hd8,ht8⟩;obtain⟨hm8,s8⟩:=H7.out.1.disk hd8 ht8;have H8:=aB (aA hm8 (H7.out.2.trans s8));clear hd8 ht8 s8 hm8)
   by_cases h2:c2=0
   · subst h2
     obtain⟨on2,ac2⟩:=HPM.out rfl
     have m2:=H8.out.1.c2
     have hL9:=H8.out.1.ws
     have hsq:dC dir D L bb=r3:=by rw[HSW.out];simp
     have HSQ:=aB hsq
     clear hsq
     obtain⟨lz,hlz⟩:∃ lz,r1.2.2.last=lz:=⟨_,rfl⟩
     have hlrd:lz<4294967296∧ -1≤lz:=by
      obtain⟨ms,hms⟩:=hL9.l
      have:=lg_last_ok hms.ok
      omega
     have HLZ:=aB (aA hlz hlrd)
     have kd:w8.drew.cell? ⟨mm,2,none⟩=some (.pointer (some ⟨lb,0,none⟩)):=m2
     clear hlz hlrd m2 hL9
     go_upto_region 11 with fail
     refine dQ (fun w'=>w'.cell? ⟨mm,2,none⟩=some (.pointer (some ⟨lb,0,none⟩))) 11 12 kd (fun hH=>?_)
     refine bU [[0],[1],[2],[3],[4],[5],[6],[7]] hH ?_
     refine bM (i:=8) rfl (fun K hK=>?_)
     go_simp
     go_at_call 59
     refine(cl_last (H8.out.1.ws.stay (Below.refl _ _).drew) HLZ.out.1).mono ?_
     rintro r w9 ⟨rfl,hb9'⟩
     have hb9:Below w8.heap.size w8 w9:=(Below.refl w8.heap.size w8).drew.trans hb9'
     have hm9:=H8.out.1.stay hb9
     have kd9:w9.cell? ⟨mm,2,none⟩=some (.pointer (some ⟨lb,0,none⟩)):=hm9.c2
     have H9:=aB (aA hm9 (H8.out.2.trans (fV.below hb9)))
     clear hb9 hb9' hm9 kd
     refine bH hK kd9 ?_
     clear hK K
     intro hH
     have wr1:IntKind.i64.wrap (lz+1)=lz+1:=IntWalk.i64_in _ (by have:=HLZ.out.2;omega)
     refine bU [[9]] hH ?_
     refine bM (i:=10) rfl (fun K hK=>?_)
     go_simp
     go_at_call 58
     refine(w_drop H9.out.1.ws.l H9.out.1.ws.d.d H9.out.1.ws.sub on2 ac2 (lz+1)).mono ?_
     rw[← HLZ.out.1,HRR.out.2.2.1]
     intro r w10 hb10
     obtain⟨rfl,G10,F10,hm10,s10⟩:=H9.out.1.kept (hb10.kept H9.out.1.ws.sub)
     have H10:=aB (aA hm10 (H9.out.2.trans s10))
     have kd10:w10.cell? ⟨mm,2,none⟩=some (.pointer (some ⟨lb,0,none⟩)):=hm10.c2
     clear hb10 s10 hm10 kd9
     refine bH hK kd10 ?_
     clear hK K
     intro hH
     refine eU ?_
     clear hH kd10
     go_wp2_with (go_at_call 49;refine(swap_end H10.out.1 H10.out.2).mono ?_;rintro r wE ⟨rfl,hE⟩;have HE:=aB hE;clear hE)
     go_ret
     rw[HSQ.out]
     exact⟨rfl,HE.out⟩
   · have s1:(c2 == 0)=false:=by simpa using h2
     have hsq:dC dir D L bb=(r2.1,r2.2,r1.2.2):=by rw[HSW.out,if_neg (by simp),if_pos h2]
     have HSQ:=aB hsq
     clear hsq
     have hcc:=HRR.out.2.2.2.2.1
     go_wp2_with (go_at_call 49;rw[← hcc];refine(swap_end (x:=(r2.1,r2.2,r1.2.2)) H8.out.1 H8.out.2).mono ?_;rintro r wE ⟨rfl,hE⟩;have HE:=aB hE;clear hE)
     go_ret
     rw[HSQ.out]
     exact⟨by show _=Ending.returned (Value.int .i64 r2.1);rw[hcc];rfl,HE.out⟩
 · have s1:(c1 == 0)=false:=by simpa using h1
   have hsq:dC dir D L bb=r1:=by rw[HSW.out,if_pos h1]
   have HSQ:=aB hsq
   clear hsq
   have hcc:=HRR.out.2.2.2.1
   go_wp2_with (go_at_call 49;rw[← hcc];refine(swap_end H7.out.1 H7.out.2).mono ?_;rintro r wE ⟨rfl,hE⟩;have HE:=aB hE;clear hE)
   go_ret
   rw[HSQ.out]
   exact⟨by show _=Ending.returned (Value.int .i64 r1.1);rw[hcc];rfl,HE.out⟩
end
section
def gF (s:List KV) (n:ByteArray):ByteArray:=(aH (aU s) n).getD ByteArray.empty
def eR (s e:List KV):List KV:=(aU e).filter (fun p=>decide (gF s p.1≠p.2))
theorem lV (s:List KV) (a:ByteArray):∀ x:List KV,aH (aU (s++x)) a=match aH (aU x) a with|some v=>some v|none=>aH (aU s) a:=by
 have h:∀ n (x:List KV),x.length=n→aH (aU (s++x)) a=match aH (aU x) a with|some v=>some v|none=>aH (aU s) a:=by
  intro n
  induction n with
  |zero=>
   intro x hx
   obtain rfl:=List.eq_nil_of_length_eq_zero hx
   rw[List.append_nil]
   rfl
  |succ n ih=>
   intro x hx
   rcases List.eq_nil_or_concat x with rfl|⟨y,q,rfl⟩
   · simp at hx
   · rw[List.concat_eq_append]at hx ⊢
     have hy:y.length=n:=by rw[List.length_append]at hx;simp at hx;omega
     rw[← List.append_assoc,fU,fU,jU,jU]
     by_cases hq:q.1=a
     · rw[if_pos hq,if_pos hq]
     · rw[if_neg hq,if_neg hq]
       exact ih y hy
 exact fun x=>h x.length x rfl
theorem fewN_nd (s e:List KV):((eR s e).map (·.1)).Nodup:=(List.filter_sublist.map _).nodup (jI e)
variable {s e M:List KV}
theorem few_nd (h:M.Perm (eR s e)):(M.map (·.1)).Nodup:=((h.map _).nodup_iff).2 (fewN_nd s e)
theorem few_mem (h:M.Perm (eR s e)) {p:KV} (hp:p∈M):p∈e:=kD (List.mem_filter.1 (h.mem_iff.1 hp)).1
theorem few_get (h:M.Perm (eR s e)) (a:ByteArray):aH (aU M) a=match aH (aU e) a with|some v=>if gF s a=v then none else some v|none=>none:=by
 rw[baseN_self (few_nd h)]
 have hiff:∀ v,aH M a=some v↔(aH (aU e) a=some v∧gF s a≠v):=fun v=>by
  rw[lN (few_nd h),h.mem_iff]
  unfold eR
  rw[List.mem_filter,lN (jI e)]
  simp
 have hno:∀ {o:Option ByteArray},(∀ v,o≠some v)→o=none:=fun {o} ho=>by
  cases o with
  |none=>rfl
  |some v=>exact absurd rfl (ho v)
 cases hg:aH (aU e) a with
 |none=>
  refine hno (fun v hv=>?_)
  have:=(hiff v).1 hv
  rw[hg]at this
  cases this.1
 |some v=>
  by_cases hv:gF s a=v
  · simp only[hv,if_true]
    refine hno (fun u hu=>?_)
    have:=(hiff u).1 hu
    rw[hg]at this
    injection this.1 with e1
    exact this.2 (hv.trans e1)
  · simp only[hv,if_false]
    exact(hiff v).2 ⟨hg,hv⟩
theorem few_notes (h:M.Perm (eR s e)):aZ s M=aZ s e:=by
 refine jN LtN.irrefl (fun _ _=>LtN.asymm) (iC _ _) (iC _ _) (fun p=>?_)
 rw[kO,kO,lV,lV,few_get h]
 cases hg:aH (aU e) p.1 with
 |none=>simp only
 |some v=>
  by_cases hv:gF s p.1=v
  · simp only[hv,if_true]
    unfold gF at hv
    cases hs:aH (aU s) p.1 with
    |none=>
     rw[hs]at hv
     simp only[Option.getD_none]at hv
     subst hv
     constructor
     · rintro⟨h1,_⟩;cases h1
     · rintro⟨h1,h2⟩
       injection h1 with h1
       rw[← h1]at h2
       exact absurd rfl h2
    |some u=>
     rw[hs]at hv
     simp only[Option.getD_some]at hv
     subst hv
     exact Iff.rfl
  · simp only[hv,if_false]
theorem kK (a b:List KV):aJ (a++b)=aJ a+aJ b:=by unfold aJ;rw[List.map_append,List.sum_append]
theorem eZ (p:KV) (b:List KV):aJ (p::b)=p.2.size+aJ b:=rfl
theorem textsN_perm {a b:List KV} (h:a.Perm b):aJ a=aJ b:=(h.map _).sum_nat
theorem kF (q:KV→Bool):∀ l:List KV,aJ (l.filter q)≤aJ l
 |[]=>Nat.le_refl _
 |p::l=>by
  have:=kF q l
  rw[List.filter_cons]
  split
  · rw[eZ,eZ];omega
  · rw[eZ];omega
theorem iW (a v:ByteArray):∀ m:List KV,(m.map (·.1)).Nodup→aJ (m.map (fun p=>if p.1=a then(a,v)else p))≤aJ m+v.size
 |[],_=>Nat.zero_le _
 |p::m,hn=>by
  obtain⟨h1,h2⟩:=List.nodup_cons.1 hn
  rw[List.map_cons,eZ,eZ]
  by_cases hp:p.1=a
  · rw[if_pos hp]
    have:m.map (fun p=>if p.1=a then(a,v)else p)=m:=by
     conv=>rhs;rw[← List.map_id m]
     refine List.map_congr_left (fun q hq=>?_)
     rw[if_neg (fun e=>h1 (by show p.1∈_;rw[hp,←e];exact List.mem_map_of_mem hq))]
     rfl
    rw[this]
    show v.size+aJ m≤_
    omega
  · rw[if_neg hp]
    have:=iW a v m h2
    omega
theorem textsN_set {m:List KV} (hn:(m.map (·.1)).Nodup) (a v:ByteArray):aJ (aG m a v)≤aJ m+v.size:=by
 unfold aG
 split
 · exact iW a v m hn
 · rw[kK]
   exact Nat.le_refl _
theorem textsN_base:∀ n (x:List KV),x.length=n→aJ (aU x)≤aJ x:=by
 intro n
 induction n with
 |zero=>
  intro x hx
  obtain rfl:=List.eq_nil_of_length_eq_zero hx
  exact Nat.le_refl _
 |succ n ih=>
  intro x hx
  rcases List.eq_nil_or_concat x with rfl|⟨y,q,rfl⟩
  · simp at hx
  · rw[List.concat_eq_append]at hx ⊢
    have hy:y.length=n:=by rw[List.length_append]at hx;simp at hx;omega
    have h1:=ih y hy
    have h2:=textsN_set (jI y) q.1 q.2
    rw[fU,kK]
    show _≤_+(q.2.size+0)
    omega
theorem few_texts (h:M.Perm (eR s e)):aJ M≤aJ e:=by
 have h1:=textsN_perm h
 have h2:=kF (fun p=>decide (gF s p.1≠p.2)) (aU e)
 have h3:=textsN_base e.length e rfl
 unfold eR at h1
 omega
theorem base_len (e:List KV):(aU e).length≤e.length:=by
 have h:∀ i,i≤e.length→(aU (e.take i)).length≤i:=by
  intro i
  induction i with
  |zero=>intro _;rw[List.take_zero];exact Nat.le_refl _
  |succ i ih=>
   intro hi
   rw[List.take_succ_eq_append_getElem (by omega),fU]
   exact Nat.le_trans cA.1 (Nat.succ_le_succ (ih (by omega)))
 have:=h e.length (Nat.le_refl _)
 rwa [List.take_length]at this
theorem few_len (h:M.Perm (eR s e)):M.length≤e.length:=by
 have h1:=h.length_eq
 have h2:(eR s e).length≤(aU e).length:=List.length_filter_le _ _
 have h3:=base_len e
 omega
theorem applyF_few {s t:PS} {e:PE} {M:List KV} (h:M.Perm (eR s.ns e.ns)) (ha:aO s e=(0,t)):aO s {e with ns:=M}=(0,t):=by
 have hN:=few_notes h
 have ht:cU s {e with ns:=M}=cU s e:=rfl
 have hT:=few_texts h
 unfold aO at ha ⊢
 by_cases h1:bO e=false
 · rw[if_pos h1]at ha;injection ha with ha _;omega
 · rw[if_neg h1]at ha
   have h1':¬ bO {e with ns:=M}=false:=by
    have h1:bO e=true:=by simpa using h1
    unfold bO at h1 ⊢
    simp only[Bool.and_eq_true]at h1 ⊢
    have:M.all dB=true:=List.all_eq_true.2 (fun p hp=>List.all_eq_true.1 h1.2 p (few_mem h hp))
    simp[h1.1,this]
   rw[if_neg h1']
   by_cases h2:(cU s e).1≠0
   · rw[if_pos h2]at ha;injection ha with ha _;exact absurd ha h2
   · rw[if_neg h2]at ha
     rw[ht,if_neg h2]
     by_cases h3:kY s e
     · rw[if_pos h3]at ha;injection ha with ha _;omega
     · rw[if_neg h3]at ha
       rw[if_neg (show ¬ kY s {e with ns:=M} from h3)]
       by_cases h4:¬ fI (cU s e).2.1
       · rw[if_pos h4]at ha;injection ha with ha _;omega
       · rw[if_neg h4]at ha ⊢
         by_cases h5:dM e (cU s e).2.1 (aZ s.ns e.ns)
         · rw[if_pos h5]at ha;injection ha with ha _;omega
         · rw[if_neg h5]at ha
           have h5':¬ dM {e with ns:=M} (cU s e).2.1 (aZ s.ns M):=by
            rw[hN]
            unfold dM at h5 ⊢
            simp only at h5 ⊢
            omega
           simp only at h5' ⊢
           rw[if_neg h5',hN]
           exact ha
end
end Go.Proofs.YtpfibkgmfapnjaaGreatDoor
