/- Manifest: the tables behind an edit. -/
import Derived.Test.YtpfibkgmfapnjaaGreatDoorS5
import Derived.Test.YtpfibkgmfapnjaaGreatDoorS6
import Derived.Test.YtpfibkgmfapnjaaGreatDoorS8
import Derived.StillTailTactics
import Derived.Shelf.Spec.SlicesGrow
import Derived.Ground.Names7Prog
set_option linter.unusedSimpArgs false
set_option linter.unusedVariables false
namespace Go.Proofs.YtpfibkgmfapnjaaGreatDoor
section
open Go.RowKit
def ckI (k:Int):Value:= .int .i64 k
theorem keyI:hJ Tryz.prog 3 ckI (.int .i64):=key_int Tryz.underlying3
theorem und_mapF:Tryz.prog.underlying 250=some (.map 3 79):=Tryz.underlying250
def zFi:Fi:=⟨0,0,0,0,ByteArray.empty,ByteArray.empty⟩
theorem baseF_snoc (l:List Fi) (i:Nat) (hi:i<l.length) (hn:eP l):aG (dU (l.take i)) l[i].nu l[i]=dU (l.take (i+1)):=by
 rw[iY]
 · rw[List.take_succ_eq_append_getElem hi]
   unfold dU
   rw[List.map_append]
   rfl
 · intro p hp e
   obtain⟨f,hf,rfl⟩:=List.mem_map.1 hp
   obtain⟨j,hj,rfl⟩:=List.mem_iff_getElem.1 hf
   rw[List.length_take]at hj
   rw[List.getElem_take]at e
   have h3:l[j].nu≠l[i].nu:=List.pairwise_iff_getElem.1 (List.pairwise_map.1 hn) j i (by omega) hi (by omega)
   exact h3 e
theorem rdz_cell {w:World} {a:Option Addr} {n c i:Nat} {l:List Int} (h:RdZ w (.slice a n c) l) (hi:i<l.length):∃ b off,a=some ⟨b,off,none⟩∧b<w.heap.size∧w.cell? ⟨b,off+i,none⟩=some (.int .i64 l[i]):=by
 obtain⟨b,off,h1,h2,_,_,_,hc⟩:=h.at_ hi
 have:=hc 0 _ rfl
 rw[Nat.mul_one,Nat.add_zero]at this
 exact⟨b,off,h1,h2,this⟩
theorem remF_drop {m m0:List (Int×Fi)} {r:List Int} {i:Nat} (hi:i<r.length) (h:remF m (r.drop i)=remF m0 r):
 ((aH m r[i]).isSome=false→remF m0 r=none)∧((aH m r[i]).isSome=true→remF (aW m r[i]) (r.drop (i+1))=remF m0 r):=by
 rw[List.drop_eq_getElem_cons hi,remF]at h
 refine⟨fun h1=>?_,fun h1=>?_⟩
 · rw[← h,h1];rfl
 · rw[← h,h1];rfl
theorem addF_drop {next last l0:Int} {m m0:List (Int×Fi)} {r:List Fi} {i:Nat} (hi:i<r.length) (h:iJ next m last (r.drop i)=iJ next m0 l0 r):
 (((aH m r[i].nu).isSome=true∨r[i].nu<next)→iJ next m0 l0 r=none)∧(¬ ((aH m r[i].nu).isSome=true∨r[i].nu<next)→iJ next (aG m r[i].nu r[i]) (max last (r[i].nu+1)) (r.drop (i+1))=iJ next m0 l0 r):=by
 rw[List.drop_eq_getElem_cons hi,iJ]at h
 refine⟨fun h1=>?_,fun h1=>?_⟩
 · rw[← h,if_pos h1]
 · rw[← h,if_neg h1]
theorem iV {B:Nat} {a b:World} (h:Below B a b):Tn (fun q=>B≤q) a b:=⟨h.os,h.tape,h.output,h.size,fun i _ hF=>h.block i (Nat.lt_of_not_le hF)⟩
theorem remF_len {m m2:List (Int×Fi)} (r:List Int) (hr:remF m r=some m2):m2.length≤m.length:=by
 induction r generalizing m with
 |nil=>simp only[remF,Option.some.injEq]at hr;subst hr;exact Nat.le_refl _
 |cons n r ih=>
  unfold remF at hr
  split at hr
  · exact Nat.le_trans (ih hr) (List.length_filter_le _ _)
  · cases hr
def TabAns (s:PS) (e:PE) (w:World) (r:Ending) (w':World):Prop:=
 Below w.heap.size w w'∧∃ fv,r= .returned (.tuple #[fv,.int .i64 (cU s e).2.2,.int .i64 (cU s e).1])∧bE eFi w' w.heap.size fv (cU s e).2.1
set_option maxRecDepth 100000 in
set_option maxHeartbeats 4000000 in
theorem tables_any {w:World} {sv ev:Value} {s:PS} {e:PE} (hs:StV w sv s) (he:EdV w ev e) (hn:eP s.fs) (hf:s.fs.length≤100000) (ha:e.add.length≤100000) (hr:e.rem.length≤100000) (hx:0≤s.next∧s.next≤2147483648) (hv:∀ f∈e.add,0≤f.nu∧f.nu≤2147483647) (hsz:∀ f,f∈s.fs∨f∈e.add→f.f.size≤1000000000∧f.l.size≤1000000000):
 Calls Tryz.prog 132 #[sv,ev] w (TabAns s e w):=by
 obtain⟨fv,lv,nv,rfl,hs1,hs2,hs3⟩:=hs
 obtain⟨av,rv,lv',nv',rfl,he1,he2,he3,he4⟩:=he
 obtain⟨fa,fc,rfl,_,_⟩:=hs1.form
 obtain⟨aa,ac,rfl,_,_⟩:=he1.form
 obtain⟨ra,rc,rfl,_,_⟩:=he2.form
 have H0:=aB (aA hs1 (aA he1 he2))
 obtain⟨n,hnn⟩:∃ n,s.fs.length=n:=⟨_,rfl⟩
 obtain⟨na,hna⟩:∃ n,e.add.length=n:=⟨_,rfl⟩
 obtain⟨nr,hnr⟩:∃ n,e.rem.length=n:=⟨_,rfl⟩
 rw[hnn]at hf H0 ⊢
 rw[hna]at ha H0 ⊢
 rw[hnr]at hr H0 ⊢
 obtain⟨w1,hw1⟩:∃ w1,w.alloc (.cells #[.slice fa n fc,.int .i64 s.next,.int .i64 s.log,lv,nv] 35)=w1:=⟨_,rfl⟩
 obtain⟨w2,hw2⟩:∃ w2,w1.alloc (.cells #[.slice aa na ac,.slice ra nr rc,.int .i64 e.log,lv',nv'] 56)=w2:=⟨_,rfl⟩
 have hb2:Below w.heap.size w w2:=by rw[← hw2,←hw1];exact((Below.refl _ _).alloc (Nat.le_refl _) _).alloc (by simp) _
 have hz1:w1.heap.size=w.heap.size+1:=by rw[← hw1];simp
 have hz2:w2.heap.size=w.heap.size+2:=by rw[← hw2,←hw1];simp
 have c0:w2.cell? ⟨w.heap.size,0,none⟩=some (.slice fa n fc):=by rw[← hw2,←hw1];simp[go_sem]
 have c1:w2.cell? ⟨w.heap.size,1,none⟩=some (.int .i64 s.next):=by rw[← hw2,←hw1];simp[go_sem]
 have d0:w2.cell? ⟨w.heap.size+1,0,none⟩=some (.slice aa na ac):=by rw[← hw2,←hz1];simp[go_sem]
 have d1:w2.cell? ⟨w.heap.size+1,1,none⟩=some (.slice ra nr rc):=by rw[← hw2,←hz1];simp[go_sem]
 obtain⟨w3,hw3⟩:∃ w3,w2.alloc (.map #[] 0)=w3:=⟨_,rfl⟩
 have hm3:aL ckI Fi.val w3 w2.heap.size ([]:List (Int×Fi)):=by rw[← hw3];exact aL.made w2
 have hb3:Below w2.heap.size w2 w3:=by rw[← hw3];exact(Below.refl _ _).alloc (Nat.le_refl _) _
 have hmk:(Instr.makeMap 250 none).run Tryz.prog w2= .ok (.map (some w2.heap.size)) w3:=by rw[← hw3];rfl
 have hbw3:Below w.heap.size w w3:=hb2.trans (hb3.mono hb2.size)
 have g0:=(hb3.cell (p:=⟨w.heap.size,0,none⟩) (World.block_lt_of_cell? _ _ c0)).trans c0
 have g1:=(hb3.cell (p:=⟨w.heap.size,1,none⟩) (World.block_lt_of_cell? _ _ c1)).trans c1
 have g2:=(hb3.cell (p:=⟨w.heap.size+1,0,none⟩) (World.block_lt_of_cell? _ _ d0)).trans d0
 have g3:=(hb3.cell (p:=⟨w.heap.size+1,1,none⟩) (World.block_lt_of_cell? _ _ d1)).trans d1
 obtain⟨mb,hmb⟩:∃ mb,w2.heap.size=mb:=⟨_,rfl⟩
 rw[hmb]at hm3 hmk
 have hz3:mb<w3.heap.size:=by rw[← hw3];simp[hmb]
 have hmb2:mb=w.heap.size+2:=by omega
 have HMB:=aB hmb2
 have hmlo:w.heap.size+1<mb:=by omega
 have HL:=aB (aA hnn (aA hna (aA hnr (aA hn (aA hx hv)))))
 have HB:=aB (aA hbw3 (aA hm3 (aA g0 (aA g1 (aA g2 g3)))))
 have hlow:∀ b,b<w.heap.size→¬ b=mb:=fun b hb=>by omega
 have hnx:Hid (0≤max s.next 1∧max s.next 1≤2147483648):=by unfold Hid;omega
 obtain⟨nx,hnx0⟩:∃ nx,max s.next 1=nx:=⟨_,rfl⟩
 have HNX:=aB hnx0
 have HSZ:=aB hsz
 rw[hnx0]at hnx
 have hlw:∀ q:Nat,q=mb→w.heap.size≤q:=fun q h=>by omega
 have HLW:=aB hlw
 clear hmb2 hmb hm3 hb3 hbw3 hs1 hs2 hs3 he1 he2 he3 he4 hnn hna hnr hn hx hv g1 g2 g3 hb2 c0 c1 d0 d1 hlw hsz
 go_enter Tryz.func132,Tryz.ntmps132
 go_wp2_with fail
 clear hw1 hw2 hmk hw3 g0
 go_loopw [27] (fun y wr=>∃ i:Nat,i≤n∧y= .int .i64 (i:Int)∧aL ckI Fi.val wr mb (dU (s.fs.take i))∧Tn (fun q=>q=mb) w3 wr) (fun y _=>n - (intOf y).toNat)
 case atStart=>exact⟨0,by omega,rfl,HB.out.2.1,Tn.refl _ _⟩
 case round=>
  obtain⟨i,hi,rfl,hm,ht⟩:=hrel
  by_cases hlt:i<n
  · have hil:i<s.fs.length:=by rw[HL.out.1];exact hlt
    obtain⟨b,off,hab,hbl,c0,c1,c2,c3,c4,c5⟩:=eD H0.out.1 hil
    subst hab
    have e0:=ht.cell ((HB.out.1.cell (p:=⟨b,off+i*6,none⟩) hbl).trans c0) (fun h9=>hlow b hbl h9)
    have e1:=ht.cell ((HB.out.1.cell (p:=⟨b,off+i*6+1,none⟩) hbl).trans c1) (fun h9=>hlow b hbl h9)
    have e2:=ht.cell ((HB.out.1.cell (p:=⟨b,off+i*6+2,none⟩) hbl).trans c2) (fun h9=>hlow b hbl h9)
    have e3:=ht.cell ((HB.out.1.cell (p:=⟨b,off+i*6+3,none⟩) hbl).trans c3) (fun h9=>hlow b hbl h9)
    have e4:=ht.cell ((HB.out.1.cell (p:=⟨b,off+i*6+4,none⟩) hbl).trans c4) (fun h9=>hlow b hbl h9)
    have e5:=ht.cell ((HB.out.1.cell (p:=⟨b,off+i*6+5,none⟩) hbl).trans c5) (fun h9=>hlow b hbl h9)
    have hbase:=baseF_snoc s.fs i hil HL.out.2.2.2.1
    obtain⟨A,hA⟩:∃ A,s.fs[i]=A:=⟨_,rfl⟩
    rw[hA]at e0 e1 e2 e3 e4 e5 hbase
    obtain⟨alv,anu,act,asz,af,al⟩:=A
    simp only at e0 e1 e2 e3 e4 e5 hbase
    obtain⟨w4,hw4⟩:∃ w4,wr.alloc (.cells #[.int .i64 alv,.int .i64 anu,.int .i64 act,.int .i64 asz,.string af,.string al] 79)=w4:=⟨_,rfl⟩
    have p0:w4.cell? ⟨wr.heap.size,0,none⟩=some (.int .i64 alv):=by rw[← hw4];simp[go_sem]
    have p1:w4.cell? ⟨wr.heap.size,1,none⟩=some (.int .i64 anu):=by rw[← hw4];simp[go_sem]
    have p2:w4.cell? ⟨wr.heap.size,2,none⟩=some (.int .i64 act):=by rw[← hw4];simp[go_sem]
    have p3:w4.cell? ⟨wr.heap.size,3,none⟩=some (.int .i64 asz):=by rw[← hw4];simp[go_sem]
    have p4:w4.cell? ⟨wr.heap.size,4,none⟩=some (.string af):=by rw[← hw4];simp[go_sem]
    have p5:w4.cell? ⟨wr.heap.size,5,none⟩=some (.string al):=by rw[← hw4];simp[go_sem]
    have hb4:Below wr.heap.size wr w4:=by rw[← hw4];exact(Below.refl _ _).alloc (Nat.le_refl _) _
    have H4:=aB (aA (hm.below hb4) (aA (ht.trans (Tn.ofBelow hb4)) hbase))
    have z0:(i:Int)<(n:Int):=by omega
    have z1:(0:Int)≤(i:Int):=by omega
    clear c0 c1 c2 c3 c4 c5 hm ht hb4 hbase hA
    go_wp2_with (at_mapUpdate;refine kZ rfl _ _ _ rfl keyI und_mapF rfl H4.out.1 anu rfl ⟨alv,anu,act,asz,af,al⟩ rfl ?_;intro w5 hm5 ht5 hz5;have H5:=aB (aA hm5 ht5);clear hm5 ht5)
    go_roundw
    case rel=>exact⟨i+1,by omega,by go_num,by rw[← H4.out.2.2];exact H5.out.1,H4.out.2.1.trans H5.out.2⟩
    case measure=>simp[intOf];omega
  · obtain rfl:i=n:=by omega
    have hfull:s.fs.take i=s.fs:=by rw[← HL.out.1];exact List.take_length
    rw[hfull]at hm
    obtain⟨wa,rfl⟩:∃ wa,wa=wr:=⟨_,rfl⟩
    have k1:=ht.cell HB.out.2.2.2.1 (show ¬ w.heap.size=mb by omega)
    have k3:=ht.cell HB.out.2.2.2.2.2 (show ¬ w.heap.size+1=mb by omega)
    have HM:=aB (aA hm ht)
    have z0:¬ (i:Int)<(i:Int):=by omega
    clear hm ht hfull
    go_wp2_with fail
    try rw[hnx0]
    go_loopw [42] (fun y wr=>∃ (j:Nat) (m:List (Int×Fi)),j≤nr∧y= .int .i64 (j:Int)∧remF m (e.rem.drop j)=remF (dU s.fs) e.rem∧MpF m∧aL ckI Fi.val wr mb m∧Tn (fun q=>q=mb) w3 wr) (fun y _=>nr - (intOf y).toNat)
    case atStart=>exact⟨0,_,by omega,rfl,rfl,lU HL.out.2.2.2.1,HM.out.1,HM.out.2⟩
    case round=>
     obtain⟨j,m,hj,rfl,hrm,hmp,hm,ht⟩:=hrel
     by_cases hjn:j<nr
     · have hjl:j<e.rem.length:=by rw[HL.out.2.2.1];exact hjn
       obtain⟨b,off,hab,hbl,c0⟩:=rdz_cell H0.out.2.2 hjl
       subst hab
       have e0:=ht.cell ((HB.out.1.cell (p:=⟨b,off+j,none⟩) hbl).trans c0) (fun h9=>hlow b hbl h9)
       obtain⟨hd1,hd2⟩:=remF_drop hjl hrm
       obtain⟨x,hxx⟩:∃ x,e.rem[j]=x:=⟨_,rfl⟩
       rw[hxx]at e0 hd1 hd2
       have h5:=aL.look hm keyI und_mapF (z:=zFi.val) (Tryz.zeroValue79 _) true x
       have z0:(j:Int)<(nr:Int):=by omega
       have z1:(0:Int)≤(j:Int):=by omega
       cases hg:aH m x with
       |none=>
        rw[hg]at hd1 h5
        have hno:=hd1 rfl
        have hlk:(Instr.lookup 250 (.map (some mb)) (.int .i64 x) true).run Tryz.prog wr= .ok (.tuple #[.agg #[.int .i64 0,.int .i64 0,.int .i64 0,.int .i64 0,.string ByteArray.empty,.string ByteArray.empty],.bool false]) wr:=h5
        have hbel:Below w.heap.size w wr:=HB.out.1.trans (ht.below HB.out.1.size (fun q hq=>HLW.out q hq))
        have HE:=aB (aA hno hbel)
        clear hd1 hd2 h5 hno hbel hrm hmp hm ht c0 hg hxx
        go_wp2_with fail
        go_ret3
        have htf:cU s e=(22,[],0):=by unfold cU;rw[HE.out.1]
        refine⟨HE.out.2.alloc HE.out.2.size _,.slice none 0 0,?_,?_⟩
        · rw[htf];rfl
        · rw[htf];exact World.ownsRow_nil _ _ _ _
       |some A=>
        rw[hg]at hd2 h5
        obtain⟨alv,anu,act,asz,af,al⟩:=A
        have hlk:(Instr.lookup 250 (.map (some mb)) (.int .i64 x) true).run Tryz.prog wr= .ok (.tuple #[.agg #[.int .i64 alv,.int .i64 anu,.int .i64 act,.int .i64 asz,.string af,.string al],.bool true]) wr:=h5
        have hb4:Below wr.heap.size wr (wr.alloc (.cells #[.int .i64 alv,.int .i64 anu,.int .i64 act,.int .i64 asz,.string af,.string al] 79)):=(Below.refl _ _).alloc (Nat.le_refl _) _
        have hmp2:MpF (aW m x):=⟨fun p hp=>hmp.key p (gW hp),delL_nd hmp.nd x⟩
        have HE:=aB (aA (hd2 rfl) (aA hmp2 (aA (hm.below hb4) (ht.trans (Tn.ofBelow hb4)))))
        clear hd1 hd2 h5 hrm hmp hm ht c0 hg hxx hmp2 hb4
        go_wp2_with (at_delete;refine wpl_del rfl _ _ rfl keyI und_mapF rfl (show eS ckI Fi.val _ (some mb) m from HE.out.2.2.1) x rfl ?_;intro w5 hm5 ht5 hz5;have H5:=aB (aA hm5 (ht5.mono (fun q hq=>by injection hq with hq;exact hq.symm):Tn (fun q=>q=mb) _ w5));clear hm5 ht5)
        go_roundw
        case rel=>exact⟨j+1,aW m x,by omega,by go_num,HE.out.1,HE.out.2.1,H5.out.1,HE.out.2.2.2.trans H5.out.2⟩
        case measure=>simp[intOf];omega
     · obtain rfl:j=nr:=by omega
       rw[List.drop_eq_nil_of_le (by rw[HL.out.2.2.1];exact Nat.le_refl _)]at hrm
       have hrm2:remF (dU s.fs) e.rem=some m:=hrm.symm
       obtain⟨wc,rfl⟩:∃ wc,wc=wr:=⟨_,rfl⟩
       have k2:=ht.cell HB.out.2.2.2.2.1 (show ¬ w.heap.size+1=mb by omega)
       have HR:=aB (aA hrm2 (aA hmp (aA hm ht)))
       have z0:¬ (j:Int)<(j:Int):=by omega
       clear hrm hrm2 hmp hm ht k1 k3
       go_wp2_with fail
       go_loopw [15,61] (fun lz y wr=>∃ (i:Nat) (m1:List (Int×Fi)) (last:Int),i≤na∧y= .int .i64 (i:Int)∧lz= .int .i64 last∧0≤last∧last≤2147483648∧iJ nx m1 last (e.add.drop i)=iJ nx m nx e.add∧MpF m1∧aL ckI Fi.val wr mb m1∧Tn (fun q=>q=mb) w3 wr) (fun _ y _=>na - (intOf y).toNat)
       case atStart=>exact⟨0,m,nx,by omega,rfl,rfl,hnx.out.1,hnx.out.2,rfl,HR.out.2.1,HR.out.2.2.1,HR.out.2.2.2⟩
       case round=>
        obtain⟨i,m1,last,hi,rfl,rfl,hl0,hl1,had,hmp,hm,ht⟩:=hrel
        by_cases hlt:i<na
        · have hil:i<e.add.length:=by rw[HL.out.2.1];exact hlt
          obtain⟨b,off,hab,hbl,c0,c1,c2,c3,c4,c5⟩:=eD H0.out.2.1 hil
          subst hab
          have e0:=ht.cell ((HB.out.1.cell (p:=⟨b,off+i*6,none⟩) hbl).trans c0) (fun h9=>hlow b hbl h9)
          have e1:=ht.cell ((HB.out.1.cell (p:=⟨b,off+i*6+1,none⟩) hbl).trans c1) (fun h9=>hlow b hbl h9)
          have e2:=ht.cell ((HB.out.1.cell (p:=⟨b,off+i*6+2,none⟩) hbl).trans c2) (fun h9=>hlow b hbl h9)
          have e3:=ht.cell ((HB.out.1.cell (p:=⟨b,off+i*6+3,none⟩) hbl).trans c3) (fun h9=>hlow b hbl h9)
          have e4:=ht.cell ((HB.out.1.cell (p:=⟨b,off+i*6+4,none⟩) hbl).trans c4) (fun h9=>hlow b hbl h9)
          have e5:=ht.cell ((HB.out.1.cell (p:=⟨b,off+i*6+5,none⟩) hbl).trans c5) (fun h9=>hlow b hbl h9)
          obtain⟨hd1,hd2⟩:=addF_drop hil had
          have hvf:=HL.out.2.2.2.2.2 _ (List.getElem_mem hil)
          obtain⟨A,hA⟩:∃ A,e.add[i]=A:=⟨_,rfl⟩
          rw[hA]at e0 e1 e2 e3 e4 e5 hd1 hd2 hvf
          obtain⟨alv,anu,act,asz,af,al⟩:=A
          simp only at e0 e1 e2 e3 e4 e5 hd1 hd2 hvf
          obtain⟨w4,hw4⟩:∃ w4,wr.alloc (.cells #[.int .i64 alv,.int .i64 anu,.int .i64 act,.int .i64 asz,.string af,.string al] 79)=w4:=⟨_,rfl⟩
          have hb4:Below wr.heap.size wr w4:=by rw[← hw4];exact(Below.refl _ _).alloc (Nat.le_refl _) _
          have hz4:w4.heap.size=wr.heap.size+1:=by rw[← hw4];simp
          have p0:w4.cell? ⟨wr.heap.size,0,none⟩=some (.int .i64 alv):=by rw[← hw4];simp[go_sem]
          have p1:w4.cell? ⟨wr.heap.size,1,none⟩=some (.int .i64 anu):=by rw[← hw4];simp[go_sem]
          have p2:w4.cell? ⟨wr.heap.size,2,none⟩=some (.int .i64 act):=by rw[← hw4];simp[go_sem]
          have p3:w4.cell? ⟨wr.heap.size,3,none⟩=some (.int .i64 asz):=by rw[← hw4];simp[go_sem]
          have p4:w4.cell? ⟨wr.heap.size,4,none⟩=some (.string af):=by rw[← hw4];simp[go_sem]
          have p5:w4.cell? ⟨wr.heap.size,5,none⟩=some (.string al):=by rw[← hw4];simp[go_sem]
          have hm4:=hm.below hb4
          have ht4:=ht.trans (Tn.ofBelow hb4)
          have h5:=aL.look hm4 keyI und_mapF (z:=zFi.val) (Tryz.zeroValue79 _) true anu
          have z0:(i:Int)<(na:Int):=by omega
          have z1:(0:Int)≤(i:Int):=by omega
          have HT:=aB (aA hm4 (aA ht4 hmp))
          have hbel:Below w.heap.size w w4:=HB.out.1.trans (ht4.below HB.out.1.size (fun q hq=>HLW.out q hq))
          have HBE:=aB hbel
          have HZ4:=aB hz4
          have hnm:¬ wr.heap.size=mb:=by have:=ht.size;omega
          have HNM:=aB hnm
          clear c0 c1 c2 c3 c4 c5 hm ht hb4 hm4 ht4 hA had hbel hz4 hnm
          cases hg:aH m1 anu with
          |some C=>
           rw[hg]at hd1 h5
           obtain⟨clv,cnu,cct,csz,cf,cl⟩:=C
           have hlk:(Instr.lookup 250 (.map (some mb)) (.int .i64 anu) true).run Tryz.prog w4= .ok (.tuple #[.agg #[.int .i64 clv,.int .i64 cnu,.int .i64 cct,.int .i64 csz,.string cf,.string cl],.bool true]) w4:=h5
           have HE:=aB (hd1 (.inl rfl))
           clear hd1 hd2 h5 hg hvf
           go_wp2_with fail
           go_ret3
           have htf:cU s e=(23,[],0):=by unfold cU;rw[HR.out.1];simp only;rw[HNX.out,HE.out]
           refine⟨HBE.out.alloc HBE.out.size _,.slice none 0 0,?_,?_⟩
           · rw[htf];rfl
           · rw[htf];exact World.ownsRow_nil _ _ _ _
          |none=>
           rw[hg]at hd1 hd2 h5
           have hlk:(Instr.lookup 250 (.map (some mb)) (.int .i64 anu) true).run Tryz.prog w4= .ok (.tuple #[.agg #[.int .i64 0,.int .i64 0,.int .i64 0,.int .i64 0,.string ByteArray.empty,.string ByteArray.empty],.bool false]) w4:=h5
           obtain⟨w6,hw6⟩:∃ w6,w4.alloc (.cells #[.int .i64 0,.int .i64 0,.int .i64 0,.int .i64 0,.string ByteArray.empty,.string ByteArray.empty] 79)=w6:=⟨_,rfl⟩
           have hb6:Below w4.heap.size w4 w6:=by rw[← hw6];exact(Below.refl _ _).alloc (Nat.le_refl _) _
           have hlt4:wr.heap.size<w4.heap.size:=by have:=HZ4.out;omega
           have r0:=(hb6.cell (p:=⟨wr.heap.size,0,none⟩) hlt4).trans p0
           have r1:=(hb6.cell (p:=⟨wr.heap.size,1,none⟩) hlt4).trans p1
           have r2:=(hb6.cell (p:=⟨wr.heap.size,2,none⟩) hlt4).trans p2
           have r3:=(hb6.cell (p:=⟨wr.heap.size,3,none⟩) hlt4).trans p3
           have r4:=(hb6.cell (p:=⟨wr.heap.size,4,none⟩) hlt4).trans p4
           have r5:=(hb6.cell (p:=⟨wr.heap.size,5,none⟩) hlt4).trans p5
           have H6:=aB (aA (HT.out.1.below hb6) (aA (HT.out.2.1.trans (Tn.ofBelow hb6)) (HBE.out.trans (hb6.mono HBE.out.size))))
           clear hb6 hlt4 h5 hg
           by_cases hlo:anu<nx
           · have HE:=aB (hd1 (.inr hlo))
             clear hd1 hd2 hvf
             go_wp2_with fail
             go_ret3
             have htf:cU s e=(23,[],0):=by unfold cU;rw[HR.out.1];simp only;rw[HNX.out,HE.out]
             refine⟨H6.out.2.2,.slice none 0 0,?_,?_⟩
             · rw[htf];rfl
             · rw[htf];exact World.ownsRow_nil _ _ _ _
           · have hd3:=hd2 (fun h=>h.elim (fun h=>by cases h) hlo)
             have hmp2:MpF (aG m1 anu ⟨alv,anu,act,asz,af,al⟩):=⟨fun p hp=>by
              rcases fC hp with rfl|hp
              · rfl
              · exact HT.out.2.2.key p hp,lG HT.out.2.2.nd _ _⟩
             have y1:IntKind.i64.wrap (anu+1)=anu+1:=IntWalk.i64_in _ (by omega)
             obtain⟨l2,hl2⟩:∃ l2,max last (anu+1)=l2:=⟨_,rfl⟩
             have hl3:0≤l2∧l2≤2147483648:=by omega
             have HL2:=aB (aA hl2 (aA hl3 (aA hd3 hmp2)))
             clear hd1 hd2 hd3 hmp2 hvf hl3
             go_wp2_with (at_mapUpdate;refine kZ rfl _ _ _ rfl keyI und_mapF rfl H6.out.1 anu rfl ⟨alv,anu,act,asz,af,al⟩ rfl ?_;intro w7 hm7 ht7 hz7;have H7:=aB (aA hm7 (ht7:Tn (fun q=>q=mb) _ w7));have r1':=ht7.cell r1 HNM.out;clear hm7 ht7)
             go_roundw
             case rel=>exact⟨i+1,_,l2,by omega,by go_num,by first|rfl|rw[HL2.out.1],HL2.out.2.1.1,HL2.out.2.1.2,by rw[← HL2.out.1];exact HL2.out.2.2.1,HL2.out.2.2.2,H7.out.1,H6.out.2.1.trans H7.out.2⟩
             case measure=>simp[intOf];omega
        · obtain rfl:i=na:=by omega
          rw[List.drop_eq_nil_of_le (by rw[HL.out.2.1];exact Nat.le_refl _)]at had
          have htf:cU s e=(0,cV (gE m1),last):=by
           unfold cU
           rw[HR.out.1]
           simp only
           rw[HNX.out,←had]
           rfl
          obtain⟨wd,rfl⟩:∃ wd,wd=wr:=⟨_,rfl⟩
          have HS:=aB (aA htf (aA hmp (aA hm ht)))
          have HAD:=aB (show iJ nx m nx e.add=some (m1,last) from had.symm)
          have z0:¬ (i:Int)<(i:Int):=by omega
          clear had htf hmp hm ht
          have hml:m1.length≤200000:=by
           have h1:=remF_len _ HR.out.1
           have h2:=(addF_mp e.add HR.out.2.1 HAD.out).2.2.2.2.1
           have h3:(dU s.fs).length=s.fs.length:=by unfold dU;rw[List.length_map]
           have:=HL.out.1
           have:=HL.out.2.1
           omega
          have hmr:mb<wd.heap.size:=by have:=HS.out.2.2.2.size;omega
          have hbd:Below w.heap.size w wd:=HB.out.1.trans (HS.out.2.2.2.below HB.out.1.size (fun q hq=>HLW.out q hq))
          have HBD:=aB hbd
          have hmz:∀ f∈gE m1,f.f.size≤1000000000∧f.l.size≤1000000000:=by
           intro f hf
           obtain⟨p,hp,rfl⟩:=List.mem_map.1 hf
           rcases(addF_mp e.add HR.out.2.1 HAD.out).2.2.1 p hp with h1|⟨h1,_⟩
           · obtain⟨g,hg,rfl⟩:=List.mem_map.1 ((remF_mp e.rem (lU HL.out.2.2.2.1) HR.out.1).2 p h1)
             exact HSZ.out _ (.inl hg)
           · exact HSZ.out _ (.inr h1)
          have HMZ:=aB hmz
          clear hbd hmz
          go_wp2_with (at_range;refine jM rfl _ rfl und_mapF rfl (show eS ckI Fi.val _ (some mb) m1 from HS.out.2.2.1) ?_;intro w8 hr8 hb8 hz8;have H8:=aB (aA hr8 hb8);clear hr8 hb8)
          try go_frame
          go_loopw [20,91] (fun o _ wr=>∃ (todo:List (Int×Fi)) (L:List Fi),gZ ckI Fi.val wr (some mb) wd.heap.size m1 todo∧bE eFi wr (wd.heap.size+1) o L∧(L++gE todo).Perm (gE m1)∧Below wd.heap.size wd wr∧wd.heap.size+1≤wr.heap.size) (fun _ _ wr=>leftN wr (some mb) wd.heap.size)
          case atStart=>exact⟨m1,[],H8.out.1,World.ownsRow_nil _ _ _ _,by simp,H8.out.2,by omega⟩
          case round=>
           obtain⟨todo,L,hr,ho,hp,hb,hzr⟩:=hrel
           have HRN:=aB (aA hr (aA ho (aA hp (aA hb hzr))))
           have hLl:L.length≤200000:=by
            have h1:=hp.length_eq
            rw[List.length_append]at h1
            unfold gE at h1
            rw[List.length_map,List.length_map]at h1
            omega
           clear hr ho hp hb
           go_wp2_with (at_next;refine lA rfl _ rfl rfl HRN.out.1 ?_ ?_)
           · intro h0
             have HE:=aB h0
             have hpm:L.Perm (gE m1):=by
              have:=HRN.out.2.2.1
              rw[h0]at this
              simpa[gE]using this
             have hsrt:=sortFi_any HRN.out.2.1 (HS.out.2.1.nums.perm hpm) (by omega) HRN.out.2.2.2.2
             have HSO:=aB (aA hpm hsrt)
             clear h0 hpm hsrt
             go_wp2_with (go_at_call 211;refine HSO.out.2.mono ?_;rintro r w12 ⟨rfl,ho12,ht12⟩;have H12:=aB (aA ho12 ht12);clear ho12 ht12)
             go_ret3
             have hsz:=HBD.out.size
             have h12:Below wd.heap.size wd w12:=HRN.out.2.2.2.1.trans (H12.out.2.below HRN.out.2.2.2.1.size (fun q hq=>by have:=(HRN.out.2.1.lt q hq).1;omega))
             refine⟨HBD.out.trans (h12.mono hsz),u20,?_,?_⟩
             · rw[HS.out.1];rfl
             · rw[HS.out.1]
               show bE eFi _ _ _ (cV (gE m1))
               rw[← sortFi_congr HS.out.2.1.nums HSO.out.1]
               exact aK H12.out.1 (by omega)
           · intro pre nm A post w9 htd hr9 ht9 hz9 hen
             obtain⟨alv,anu,act,asz,af,al⟩:=A
             try simp only[ckI,Fi.val]at hen
             have hcp:=HMZ.out ⟨alv,anu,act,asz,af,al⟩ (HRN.out.2.2.1.mem_iff.1 (List.mem_append_right _ (by rw[htd];unfold gE;simp)))
             simp only at hcp
             have ho9:bE eFi w9 (wd.heap.size+1) u20 L:=ht9.row HRN.out.2.1 (fun q hq h9=>by have:=(HRN.out.2.1.lt q hq).1;omega)
             have hb9:Below wd.heap.size wd w9:=HRN.out.2.2.2.1.trans (ht9.below HRN.out.2.2.2.1.size (fun k hk=>by omega))
             obtain⟨w10,hw10⟩:∃ w10,w9.alloc (.cells #[.int .i64 alv,.int .i64 anu,.int .i64 act,.int .i64 asz,.string af,.string al] 79)=w10:=⟨_,rfl⟩
             have hb10:Below w9.heap.size w9 w10:=by rw[← hw10];exact(Below.refl _ _).alloc (Nat.le_refl _) _
             have p0:w10.cell? ⟨w9.heap.size,0,none⟩=some (.int .i64 alv):=by rw[← hw10];simp[go_sem]
             have p1:w10.cell? ⟨w9.heap.size,1,none⟩=some (.int .i64 anu):=by rw[← hw10];simp[go_sem]
             have p2:w10.cell? ⟨w9.heap.size,2,none⟩=some (.int .i64 act):=by rw[← hw10];simp[go_sem]
             have p3:w10.cell? ⟨w9.heap.size,3,none⟩=some (.int .i64 asz):=by rw[← hw10];simp[go_sem]
             have p4:w10.cell? ⟨w9.heap.size,4,none⟩=some (.string af):=by rw[← hw10];simp[go_sem]
             have p5:w10.cell? ⟨w9.heap.size,5,none⟩=some (.string al):=by rw[← hw10];simp[go_sem]
             have H9:=aB (aA hr9 (aA ho9 (aA hb9 (aA htd hb10))))
             have hzz:wd.heap.size+1≤w9.heap.size:=by omega
             clear hr9 ht9 ho9 hb9 htd hb10 hz9
             try simp only[ckI,Fi.val]
             go_wp2_with (first
              |(at_builtin;refine fK eFi rfl _ _ rfl rfl rfl (l:=L) (l2:=[(⟨alv,anu,act,asz,af,al⟩:Fi)]) (B:=wd.heap.size+1) (aD (aD (aD H9.out.2.1 H9.out.2.2.2.2) H11.out) ((Below.refl _ _).alloc (Nat.le_refl _) _)) (eW (e:=eFi) w11 (⟨alv,anu,act,asz,af,al⟩:Fi) #[.int .i64 alv,.int .i64 anu,.int .i64 act,.int .i64 asz,.string af,.string al] _ rfl 1) (by simp;omega) (by have:=H9.out.2.2.2.2.size;have:=H11.out.size;simp;omega) ?_;intro a13 cap13 w13 ho13 hb13 _ _;have H13:=aB (aA ho13 hb13);clear ho13 hb13)
              |(go_at_call 210;refine(copied_any ⟨alv,anu,act,asz,af,al⟩ _ hcp).mono ?_;rintro r w11 ⟨rfl,hb11⟩;have H11:=aB hb11;clear hb11))
             have hbb:Below (wd.heap.size+1) w9 w13:=((H9.out.2.2.2.2.mono hzz).trans ((H11.out.mono (by have:=H9.out.2.2.2.2.size;omega)))).trans (((Below.refl (wd.heap.size+1) w11).alloc (by have:=H9.out.2.2.2.2.size;have:=H11.out.size;omega) _).trans H13.out.2)
             have hr13:=H9.out.1.tn (iV hbb) (fun b hb=>by injection hb with hb;omega) (by omega)
             have HF:=aB (aA hbb hr13)
             clear hbb hr13
             go_roundw
             case rel=>
              refine⟨pre++post,L++[⟨alv,anu,act,asz,af,al⟩],HF.out.2,H13.out.1,?_,H9.out.2.2.1.trans (HF.out.1.mono (by omega)),by have:=HF.out.1.size;omega⟩
              refine List.Perm.trans ?_ HRN.out.2.2.1
              rw[H9.out.2.2.2.1]
              unfold gE
              rw[List.map_append,List.map_append,List.map_cons,List.append_assoc]
              refine List.Perm.append_left _ ?_
              rw[List.singleton_append]
              exact List.perm_middle.symm
             case measure=>
              rw[HF.out.2.left,HRN.out.1.left,H9.out.2.2.2.1]
              simp
end
section
open Go.RowKit Go.Shelf
def Tryz.growNt_ren : Go.Shelf.Ren := ⟨fun | 4 => 273 | n => n, fun | 22 => 33 | 25 => 74 | 3 => 3 | 4 => 4 | 9 => 9 | 20 => 20 | 0 => 0 | n => n, fun | n => n⟩
theorem Tryz.growNt : Go.Proofs.Lays8.n4 Tryz.prog Tryz.growNt_ren := {
  mixed := by kernel_rfl
  f4 := ⟨Tryz.f273.name, by decide, Tryz.func273.trans (congrArg some (by kernel_rfl))⟩
  t0 := Tryz.underlying0
  a0 := Tryz.isAgg0
  z0 := Tryz.sizeOf0
  v0 := Tryz.zeroValue0
  t3 := Tryz.underlying3
  a3 := Tryz.isAgg3
  z3 := Tryz.sizeOf3
  v3 := Tryz.zeroValue3
  t4 := Tryz.underlying4
  a4 := Tryz.isAgg4
  z4 := Tryz.sizeOf4
  v4 := Tryz.zeroValue4
  t9 := Tryz.underlying9
  a9 := Tryz.isAgg9
  z9 := Tryz.sizeOf9
  v9 := Tryz.zeroValue9
  t20 := Tryz.underlying20
  a20 := Tryz.isAgg20
  z20 := Tryz.sizeOf20
  v20 := Tryz.zeroValue20
  t22 := Tryz.underlying33
  a22 := Tryz.isAgg33
  z22 := Tryz.sizeOf33
  v22 := Tryz.zeroValue33 }
theorem grow_any {w:World} {n:Nat} (hn:n≤1000000000):Calls Tryz.prog 273 #[.slice none 0 0,.int .i64 (n:Int)] w fun e w'=>
 Below w.heap.size w w'∧∃ v,e= .returned v∧bE eNt w' w.heap.size v []:=by
 by_cases h0:n=0
 · subst h0
   refine(Any8.slices_Grow_room Tryz.growNt none 0 0 0 w (by omega) (by omega) (by omega) (by omega)).mono ?_
   rintro e w' ⟨rfl,rfl⟩
   exact⟨Below.refl _ _,_,rfl,rfl,.inl ⟨rfl,rfl⟩⟩
 · obtain⟨i0,hi0,hz0,hs0,hy0⟩:=info_parts info_nt
   refine(Any8.slices_Grow_grow Tryz.growNt i0 _ hi0 hz0 (by omega) none 0 0 n [] w (by omega) (by omega) (by rw[hy0];omega) (by omega) (by simp) (fun _=>rfl) (fun a ha=>by cases ha)).mono ?_
   rintro e w' ⟨rfl,rfl⟩
   have hle:0+n≤grownCap w (0+n) 0 74:=grownCap_ge w _ _ _
   have hmx:=grownCap_le_maxLen w (0+n) 0 74 (by unfold maxLen;omega)
   obtain⟨G,hG⟩:∃ G,grownCap w (0+n) 0 74=G:=⟨_,rfl⟩
   rw[hG]at hle hmx
   have hq:grownCap w (0+n) 0 (Tryz.growNt_ren.t 25)=G:=hG
   rw[hq]
   obtain⟨w1,hw1⟩:∃ w1,w.drew=w1:=⟨_,rfl⟩
   have hz1:w1.heap.size=w.heap.size:=by rw[← hw1];rfl
   have hb1:Below w.heap.size w w1:=by rw[← hw1];exact(Below.refl _ _).drew
   rw[hw1]
   refine⟨hb1.alloc (Nat.le_of_eq hz1.symm) _,_,rfl,rfl,.inr ⟨w.heap.size,G,(#[]++Builtin.zeroCells (Value.agg #[Value.string ByteArray.empty,Value.string ByteArray.empty]).cells (0+n - 0)++Builtin.zeroCells (Value.agg #[Value.string ByteArray.empty,Value.string ByteArray.empty]).cells (G - (0+n))),rfl,Nat.le_refl _,?_,Nat.zero_le _,hmx,?_,rfl⟩⟩
   · rw[← hz1];exact heap_alloc_new w1 _
   · simp[Builtin.zeroCells,go_sem]
     omega
set_option maxHeartbeats 2000000 in
set_option maxRecDepth 100000 in
theorem concat_any {w:World} {b c:Nat} {sv ev:Value} {s e:List KV} (c0:w.cell? ⟨b,0,none⟩=some sv) (c1:w.cell? ⟨b,1,none⟩=some ev) (h1:RdN w sv s) (h2:RdN w ev e) (l1:s.length≤1000000) (l2:e.length≤1000000):
 Calls Tryz.prog 216 #[.slice (some ⟨b,0,none⟩) 2 c] w fun r w'=>Below w.heap.size w w'∧∃ v,r= .returned v∧bE eNt w' w.heap.size v (s++e):=by
 have hbl:b<w.heap.size:=World.block_lt_of_cell? _ _ c0
 have H:=aB (aA h1 (aA h2 (aA c0 c1)))
 obtain⟨sa,sc,rfl,hs1,hs2⟩:=h1.form
 obtain⟨ea,ec,rfl,he1,he2⟩:=h2.form
 clear h1 h2
 obtain⟨n,hn⟩:∃ n,s.length=n:=⟨_,rfl⟩
 obtain⟨m,hm⟩:∃ m,e.length=m:=⟨_,rfl⟩
 rw[hn,hm]at H
 rw[hn]at c0 l1 hs1
 rw[hm]at c1 l2 he1
 have HN:=aB (aA hn hm)
 clear hn hm
 go_enter Tryz.func216,Tryz.ntmps216
 go_wp2_with fail
 go_loopw [3,11] (fun y3 y11 wr=>wr=w∧((y3= .int .i64 0∧y11= .int .i64 0)∨(y3= .int .i64 (n:Int)∧y11= .int .i64 1)∨(y3= .int .i64 ((n+m:Nat):Int)∧y11= .int .i64 2))) (fun _ y11 _=>3 - (intOf y11).toNat)
 case atStart=>exact⟨by first|rfl|trivial,.inl ⟨rfl,rfl⟩⟩
 case round=>
  obtain⟨rfl,⟨rfl,rfl⟩|⟨rfl,rfl⟩|⟨rfl,rfl⟩⟩:=hrel
  · have z0:¬ (n:Int)<0:=by omega
    go_wp2_with fail
    go_roundw
    case rel=>exact⟨by first|rfl|trivial,.inr (.inl ⟨by go_num,rfl⟩)⟩
    case measure=>simp[intOf]
  · have z0:¬ ((n:Int)+(m:Int))<0:=by omega
    go_wp2_with fail
    go_roundw
    case rel=>exact⟨by first|rfl|trivial,.inr (.inr ⟨by go_num,rfl⟩)⟩
    case measure=>simp[intOf]
  · go_wp2_with (go_at_call 273;refine(grow_any (n:=n+m) (by omega)).mono ?_;rintro r w2 ⟨hb2,v,rfl,ho2⟩)
    obtain⟨wv,rfl⟩:∃ wv,wv=wr:=⟨_,rfl⟩
    have HO:=aB (aA hb2 ho2)
    have HH:=aB (aA H.out.1 (aA H.out.2.1 hbl))
    clear hb2 ho2 H hbl
    have k0:=HO.out.1.cell (p:=⟨b,0,none⟩) HH.out.2.2
    rw[c0]at k0
    have k1:=HO.out.1.cell (p:=⟨b,1,none⟩) HH.out.2.2
    rw[c1]at k1
    clear c0 c1
    go_loopw [6,27] (fun y6 y27 w3=>∃ L,bE eNt w3 wv.heap.size y6 L∧Below wv.heap.size wv w3∧w3.cell? ⟨b,0,none⟩=some (.slice sa n sc)∧w3.cell? ⟨b,1,none⟩=some (.slice ea m ec)∧((y27= .int .i64 0∧L=[])∨(y27= .int .i64 1∧L=s)∨(y27= .int .i64 2∧L=s++e))) (fun _ y27 _=>3 - (intOf y27).toNat)
    case atStart=>exact⟨[],HO.out.2,HO.out.1,k0,k1,.inl ⟨rfl,rfl⟩⟩
    case round=>
     clear k0 k1
     obtain⟨L,ho,hb,k0,k1,⟨rfl,hL⟩|⟨rfl,hL⟩|⟨rfl,hL⟩⟩:=hrel<;>rw[hL]at ho<;>clear hL L
     · have HR:=aB (aA ho hb)
       clear ho hb
       go_wp2_with (at_builtin;refine fK eNt rfl _ _ rfl rfl rfl (l:=[]) (l2:=s) (B:=wv.heap.size) HR.out.1 ((HH.out.1.below HR.out.2).src eNt) (by rw[HN.out.1];simp;omega) HR.out.2.size ?_;intro a' cp' w4 ho4 hb4 hg4 hd4;have H4:=aB (aA ho4 (aA hb4 hd4));clear ho4 hb4 hd4 hg4)
       go_roundw
       case rel=>
        have hlt:=World.block_lt_of_cell? _ _ k0
        exact⟨s,(by have h5:=H4.out.1;simpa only[List.length_nil,Nat.zero_add,List.nil_append]using h5),HR.out.2.trans H4.out.2.1,((H4.out.2.1.mono (Nat.le_refl _)).cell (p:=⟨b,0,none⟩) HH.out.2.2).trans k0,(H4.out.2.1.cell (p:=⟨b,1,none⟩) HH.out.2.2).trans k1,.inr (.inl ⟨rfl,rfl⟩)⟩
       case measure=>simp[intOf]
     · have HR:=aB (aA ho hb)
       clear ho hb
       go_wp2_with (at_builtin;refine fK eNt rfl _ _ rfl rfl rfl (l:=s) (l2:=e) (B:=wv.heap.size) HR.out.1 ((HH.out.2.1.below HR.out.2).src eNt) (by rw[HN.out.1,HN.out.2];omega) HR.out.2.size ?_;intro a' cp' w4 ho4 hb4 hg4 hd4;have H4:=aB (aA ho4 (aA hb4 hd4));clear ho4 hb4 hd4 hg4)
       go_roundw
       case rel=>
        exact⟨s++e,H4.out.1,HR.out.2.trans H4.out.2.1,(H4.out.2.1.cell (p:=⟨b,0,none⟩) HH.out.2.2).trans k0,(H4.out.2.1.cell (p:=⟨b,1,none⟩) HH.out.2.2).trans k1,.inr (.inr ⟨rfl,rfl⟩)⟩
       case measure=>simp[intOf]
     · go_wp2_with fail
       go_ret
       exact⟨hb,_,rfl,ho⟩
end
end Go.Proofs.YtpfibkgmfapnjaaGreatDoor
