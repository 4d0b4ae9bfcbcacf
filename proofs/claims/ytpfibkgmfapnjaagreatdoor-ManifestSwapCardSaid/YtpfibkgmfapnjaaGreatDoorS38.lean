/- Manifest: few: the edit of those notes alone that change something, in some order. -/
import Derived.Test.YtpfibkgmfapnjaaGreatDoorS37
import Derived.Test.YtpfibkgmfapnjaaGreatDoorS31
set_option linter.unusedSimpArgs false
set_option linter.unusedVariables false
namespace Go.Proofs.YtpfibkgmfapnjaaGreatDoor
section
open Go.RowKit
variable {w w' w0:World} {s t:PS}
theorem fstr_ne {a b:ByteArray} (h:a≠b):(a.toList == b.toList)=false:=by
 rw[beq_eq_false_iff_ne,ByteArray.toList_eq,ByteArray.toList_eq]
 intro e
 exact h (by cases a;cases b;simp only[ByteArray.mk.injEq];exact Array.toList_inj.1 e)
section
variable {K V:Type} [DecidableEq K] {P:Program} {ck:K→Value} {cv:V→Value} {ops:Array Oper} {Q:Exit→Act→World→Prop} {rest:List Oper} {o:Oper} {a:Act} {t k e:TypeId} {d:TypeDesc} {ob:Option Nat} {m:List (K×V)}
theorem wpl_atD (hg:o.guard=none) (mo xo:Operand) (hop:o.op=Op.lookup t mo xo false) (hk:hJ P k ck d) (ht:P.underlying t=some (.map k e)) {dv:V} (hz:(zeroValue e).run P w= .ok (cv dv) w)
 (hm:a.eval mo= .map ob) (h:eS ck cv w ob m) (x:K) (hx:a.eval xo=ck x)
 (h1:wpList P ops Q rest (a.put o.dst (cv ((aH m x).getD dv))) w):wpList P ops Q (o::rest) a w:=by
 refine wpList_plain hg fun K' hK'=>?_
 have hrun:=h.look hk ht hz false x
 unfold Oper.wp
 cases hv:aH m x with
 |none=>
  rw[hv]at hrun h1
  simp[execOp,hop,hm,hx,hrun,Result.andThen]
  exact hK' _ _ h1
 |some v=>
  rw[hv]at hrun h1
  simp[execOp,hop,hm,hx,hrun,Result.andThen]
  exact hK' _ _ h1
end
theorem zeroStr (w:World):(zeroValue 9).run Tryz.prog w= .ok (.string ByteArray.empty) w:=by kernel_rfl
theorem lP (p:KV→Bool) (a b:List KV):(a++b).filter p=a.filter p++b.filter p:=List.filter_append ..
def FewAns (s:PS) (e:PE) (w:World) (r:Ending) (w':World):Prop:=∃ v M,r= .returned v∧M.Perm (eR s.ns e.ns)∧EdV w' v {e with ns:=M}∧Below w.heap.size w w'
set_option maxRecDepth 100000 in
set_option maxHeartbeats 4000000 in
theorem few_any {sv ev:Value} {e:PE} (hs:StV w sv s) (he:EdV w ev e) (hn4:s.ns.length≤400000) (hm4:e.ns.length≤400000):Calls Tryz.prog 47 #[sv,ev] w (FewAns s e w):=by
 obtain⟨fv,lv,nv,rfl,hs1,hs2,hs3⟩:=hs
 obtain⟨xv,yv,mv,ov,rfl,he1,he2,he3,he4⟩:=he
 obtain⟨xa,xc,rfl,_,_⟩:=he1.form
 obtain⟨ya,yc,rfl,_,_⟩:=he2.form
 obtain⟨ma,mc,rfl,_,_⟩:=he3.form
 obtain⟨na,nc,rfl,_,_⟩:=hs3.form
 obtain⟨oa,oc,rfl,_,_⟩:=he4.form
 obtain⟨xn,hxn⟩:∃ n,e.add.length=n:=⟨_,rfl⟩
 obtain⟨yn,hyn⟩:∃ n,e.rem.length=n:=⟨_,rfl⟩
 obtain⟨mn,hmn⟩:∃ n,e.fl.length=n:=⟨_,rfl⟩
 obtain⟨n,hnn⟩:∃ n,s.ns.length=n:=⟨_,rfl⟩
 obtain⟨o,hoo⟩:∃ n,e.ns.length=n:=⟨_,rfl⟩
 rw[hxn]at he1 ⊢
 rw[hyn]at he2 ⊢
 rw[hmn]at he3 ⊢
 rw[hnn]at hs3 hn4 ⊢
 rw[hoo]at he4 hm4 ⊢
 have HE:=aB (aA he1 (aA he2 he3))
 have HL:=aB (aA hs3 (aA he4 (aA hnn hoo)))
 clear hs1 hs2 hs3 he1 he2 he3 he4 hxn hyn hmn hnn hoo
 obtain⟨w1,hw1⟩:∃ w1,w.alloc (.cells #[fv,.int .i64 s.next,.int .i64 s.log,lv,.slice na n nc] 35)=w1:=⟨_,rfl⟩
 obtain⟨w2,hw2⟩:∃ w2,w1.alloc (.cells #[.slice xa xn xc,.slice ya yn yc,.int .i64 e.log,.slice ma mn mc,.slice oa o oc] 56)=w2:=⟨_,rfl⟩
 obtain⟨w3,hw3⟩:∃ w3,w2.alloc (.cells #[.slice none 0 0,.slice none 0 0,.int .i64 0,.slice none 0 0,.slice none 0 0] 56)=w3:=⟨_,rfl⟩
 obtain⟨w4,hw4⟩:∃ w4,w3.alloc (.map #[] 0)=w4:=⟨_,rfl⟩
 obtain⟨w5,hw5⟩:∃ w5,w4.alloc (.map #[] 0)=w5:=⟨_,rfl⟩
 have hz1:w1.heap.size=w.heap.size+1:=by rw[← hw1];simp
 have hz2:w2.heap.size=w.heap.size+2:=by rw[← hw2,←hw1];simp
 have hz3:w3.heap.size=w.heap.size+3:=by rw[← hw3,←hw2,←hw1];simp
 have hz4:w4.heap.size=w.heap.size+4:=by rw[← hw4,←hw3,←hw2,←hw1];simp
 have hz5:w5.heap.size=w.heap.size+5:=by rw[← hw5,←hw4,←hw3,←hw2,←hw1];simp
 have hmk1:(Instr.makeMap 181 none).run Tryz.prog w3= .ok (.map (some (w.heap.size+3))) w4:=by rw[← hw4,←hz3];rfl
 have hmk2:(Instr.makeMap 181 none).run Tryz.prog w4= .ok (.map (some (w.heap.size+4))) w5:=by rw[← hw5,←hz4];rfl
 have hm4:aL kW Value.string w5 (w.heap.size+3) ([]:List KV):=by
  have h:aL kW Value.string (w3.alloc (.map #[] 0)) w3.heap.size ([]:List KV):=aL.made w3
  rw[hw4,hz3]at h
  refine h.below ?_
  rw[← hw5]
  exact(Below.refl _ _).alloc (Nat.le_refl _) _
 have hm5:aL kW Value.string w5 (w.heap.size+4) ([]:List KV):=by rw[← hw5,←hz4];exact aL.made w4
 have hb5:Below w.heap.size w w5:=by rw[← hw5,←hw4,←hw3,←hw2,←hw1];exact(((((Below.refl _ _).alloc (Nat.le_refl _) _).alloc (by simp) _).alloc (by simp;omega) _).alloc (by simp;omega) _).alloc (by simp;omega) _
 have a4:w5.cell? ⟨w.heap.size,4,none⟩=some (.slice na n nc):=by rw[← hw5,←hw4,←hw3,←hw2,←hw1];simp[go_sem]
 have e0:w5.cell? ⟨w.heap.size+1,0,none⟩=some (.slice xa xn xc):=by rw[← hw5,←hw4,←hw3,←hw2,←hz1];simp[go_sem]
 have e1:w5.cell? ⟨w.heap.size+1,1,none⟩=some (.slice ya yn yc):=by rw[← hw5,←hw4,←hw3,←hw2,←hz1];simp[go_sem]
 have e2:w5.cell? ⟨w.heap.size+1,2,none⟩=some (.int .i64 e.log):=by rw[← hw5,←hw4,←hw3,←hw2,←hz1];simp[go_sem]
 have e3:w5.cell? ⟨w.heap.size+1,3,none⟩=some (.slice ma mn mc):=by rw[← hw5,←hw4,←hw3,←hw2,←hz1];simp[go_sem]
 have e4:w5.cell? ⟨w.heap.size+1,4,none⟩=some (.slice oa o oc):=by rw[← hw5,←hw4,←hw3,←hw2,←hz1];simp[go_sem]
 have ff:∀ j,w5.frozen? ⟨w.heap.size+1,j,none⟩=false:=fun j=>by rw[← hw5,←hw4,←hw3,←hw2,←hz1];simp[go_sem]
 have r0:w5.cell? ⟨w.heap.size+2,0,none⟩=some (.slice none 0 0):=by rw[← hw5,←hw4,←hw3,←hz2];simp[go_sem]
 have r1:w5.cell? ⟨w.heap.size+2,1,none⟩=some (.slice none 0 0):=by rw[← hw5,←hw4,←hw3,←hz2];simp[go_sem]
 have r2:w5.cell? ⟨w.heap.size+2,2,none⟩=some (.int .i64 0):=by rw[← hw5,←hw4,←hw3,←hz2];simp[go_sem]
 have r3:w5.cell? ⟨w.heap.size+2,3,none⟩=some (.slice none 0 0):=by rw[← hw5,←hw4,←hw3,←hz2];simp[go_sem]
 have r4:w5.cell? ⟨w.heap.size+2,4,none⟩=some (.slice none 0 0):=by rw[← hw5,←hw4,←hw3,←hz2];simp[go_sem]
 have rf:∀ j,w5.frozen? ⟨w.heap.size+2,j,none⟩=false:=fun j=>by rw[← hw5,←hw4,←hw3,←hz2];simp[go_sem]
 have H5:=aB (aA hm4 (aA hm5 (aA hb5 hz5)))
 have HSB:=aB (aA (HL.out.1.below hb5) (HL.out.2.1.below hb5))
 clear hm4 hm5 hb5
 go_enter Tryz.func47,Tryz.ntmps47
 go_wp2
 clear hw1 hw2 hw3 hw4 hw5 hmk1 hmk2
 have HA:=aB (aA (eH.mk e0 e1 e2 e3 e4 ff:eH w5 (w.heap.size+1) _ _ _ _ _) (eH.mk r0 r1 r2 r3 r4 rf:eH w5 (w.heap.size+2) _ _ _ _ _))
 clear a4 e0 e1 e2 e3 e4 ff r0 r1 r2 r3 r4 rf
 obtain⟨hb,hhb⟩:∃ hb,w.heap.size+3=hb:=⟨_,rfl⟩
 obtain⟨nb,hnb⟩:∃ nb,w.heap.size+4=nb:=⟨_,rfl⟩
 rw[hhb,hnb]at H5
 rw[hhb,hnb]
 have HB:=aB (aA hhb hnb)
 clear hhb hnb
 go_loopw [19] (fun y wr=>∃ i:Nat,i≤n∧y= .int .i64 (i:Int)∧aL kW Value.string wr hb (aU (s.ns.take i))∧Tn (fun q=>q=hb) w5 wr) (fun y _=>n - (intOf y).toNat)
 case atStart=>exact⟨0,by omega,rfl,H5.out.1,Tn.refl _ _⟩
 case round=>
  obtain⟨i,hi,rfl,hm,ht⟩:=hrel
  by_cases hlt:i<n
  · have hil:i<s.ns.length:=by rw[HL.out.2.2.1];exact hlt
    obtain⟨b,off,hab,hbl,c0,c1⟩:=cY HL.out.1 hil
    have hbl5:b<w.heap.size:=hbl
    obtain⟨b2,off2,hab2,hbl2,c0,c1⟩:=cY HSB.out.1 hil
    rw[hab]at hab2
    injection hab2 with hab2
    injection hab2 with hb2 ho2 _
    subst hb2 ho2
    subst hab
    have hbb:¬ b=hb:=by have:=HB.out.1;omega
    have e0:=ht.cell (p:=⟨b,off+i*2,none⟩) c0 hbb
    have e1:=ht.cell (p:=⟨b,off+i*2+1,none⟩) c1 hbb
    have hbase:=iH s.ns i hil
    obtain⟨A,hA⟩:∃ A,s.ns[i]=A:=⟨_,rfl⟩
    rw[hA]at e0 e1 hbase
    obtain⟨kp,vp⟩:=A
    simp only at e0 e1 hbase
    obtain⟨w6,hw6⟩:∃ w6,wr.alloc (.cells #[.string kp,.string vp] 74)=w6:=⟨_,rfl⟩
    have p0:w6.cell? ⟨wr.heap.size,0,none⟩=some (.string kp):=by rw[← hw6];simp[go_sem]
    have p1:w6.cell? ⟨wr.heap.size,1,none⟩=some (.string vp):=by rw[← hw6];simp[go_sem]
    have hb6:Below wr.heap.size wr w6:=by rw[← hw6];exact(Below.refl _ _).alloc (Nat.le_refl _) _
    have H6:=aB (aA (hm.below hb6) (aA (ht.trans (Tn.ofBelow hb6)) hbase))
    have z0:(i:Int)<(n:Int):=by omega
    have z1:(0:Int)≤(i:Int):=by omega
    clear c0 c1 hm ht hb6 hbase hA hbb hbl hbl2 hbl5
    go_wp2_with (at_mapUpdate;refine kZ rfl _ _ _ rfl keyN und_mapN rfl H6.out.1 kp rfl vp rfl ?_;intro w7 hm7 ht7 hz7;have H7:=aB (aA hm7 ht7);clear hm7 ht7)
    go_roundw
    case rel=>exact⟨i+1,by omega,by go_num,by rw[← H6.out.2.2];exact H7.out.1,H6.out.2.1.trans H7.out.2⟩
    case measure=>simp[intOf];omega
  · obtain rfl:i=n:=by omega
    have hfull:s.ns.take i=s.ns:=by rw[← HL.out.2.2.1];exact List.take_length
    rw[hfull]at hm
    obtain⟨wd,rfl⟩:∃ wd,wd=wr:=⟨_,rfl⟩
    have z0:¬ (i:Int)<(i:Int):=by omega
    have hn0:¬ nb=hb:=by have:=HB.out.1;have:=HB.out.2;omega
    have hm5d:aL kW Value.string wd nb ([]:List KV):=H5.out.2.1.tn ht hn0
    have e4:=ht.cell HA.out.1.z4 (show ¬ w.heap.size+1=hb by have:=HB.out.1;omega)
    have HS:=aB (aA hm (aA ht hm5d))
    clear hm ht hfull hm5d
    go_wp2
    clear e4
    go_loopw [32] (fun y wx=>∃ j:Nat,j≤o∧y= .int .i64 (j:Int)∧aL kW Value.string wx nb (aU (e.ns.take j))∧Tn (fun q=>q=nb) wd wx) (fun y _=>o - (intOf y).toNat)
    case atStart=>exact⟨0,by omega,rfl,HS.out.2.2,Tn.refl _ _⟩
    case round=>
     obtain⟨j,hj,rfl,hm,ht⟩:=hrel
     by_cases hlt:j<o
     · have hil:j<e.ns.length:=by rw[HL.out.2.2.2];exact hlt
       obtain⟨b,off,hab,hbl,c0,c1⟩:=cY HL.out.2.1 hil
       have hbl5:b<w.heap.size:=hbl
       obtain⟨b2,off2,hab2,hbl2,c0,c1⟩:=cY HSB.out.2 hil
       rw[hab]at hab2
       injection hab2 with hab2
       injection hab2 with hb2 ho2 _
       subst hb2 ho2
       subst hab
       have hbb:¬ b=hb:=by have:=HB.out.1;omega
       have hbn:¬ b=nb:=by have:=HB.out.2;omega
       have e0:=ht.cell (p:=⟨b,off+j*2,none⟩) (HS.out.2.1.cell (p:=⟨b,off+j*2,none⟩) c0 hbb) hbn
       have e1:=ht.cell (p:=⟨b,off+j*2+1,none⟩) (HS.out.2.1.cell (p:=⟨b,off+j*2+1,none⟩) c1 hbb) hbn
       have hbase:=iH e.ns j hil
       obtain⟨A,hA⟩:∃ A,e.ns[j]=A:=⟨_,rfl⟩
       rw[hA]at e0 e1 hbase
       obtain⟨kp,vp⟩:=A
       simp only at e0 e1 hbase
       obtain⟨w6,hw6⟩:∃ w6,wr.alloc (.cells #[.string kp,.string vp] 74)=w6:=⟨_,rfl⟩
       have p0:w6.cell? ⟨wr.heap.size,0,none⟩=some (.string kp):=by rw[← hw6];simp[go_sem]
       have p1:w6.cell? ⟨wr.heap.size,1,none⟩=some (.string vp):=by rw[← hw6];simp[go_sem]
       have hb6:Below wr.heap.size wr w6:=by rw[← hw6];exact(Below.refl _ _).alloc (Nat.le_refl _) _
       have H6:=aB (aA (hm.below hb6) (aA (ht.trans (Tn.ofBelow hb6)) hbase))
       have z0:(j:Int)<(o:Int):=by omega
       have z1:(0:Int)≤(j:Int):=by omega
       clear c0 c1 hm ht hb6 hbase hA hbb hbn hbl hbl2 hbl5
       go_wp2_with (at_mapUpdate;refine kZ rfl _ _ _ rfl keyN und_mapN rfl H6.out.1 kp rfl vp rfl ?_;intro w7 hm7 ht7 hz7;have H7:=aB (aA hm7 ht7);clear hm7 ht7)
       go_roundw
       case rel=>exact⟨j+1,by omega,by go_num,by rw[← H6.out.2.2];exact H7.out.1,H6.out.2.1.trans H7.out.2⟩
       case measure=>simp[intOf];omega
     · obtain rfl:j=o:=by omega
       have hfull:e.ns.take j=e.ns:=by rw[← HL.out.2.2.2];exact List.take_length
       rw[hfull]at hm
       obtain⟨we,rfl⟩:∃ we,we=wr:=⟨_,rfl⟩
       have z0:¬ (j:Int)<(j:Int):=by omega
       have hmh:aL kW Value.string we hb (aU s.ns):=HS.out.1.tn ht (fun e=>hn0 e.symm)
       have hsz5:=H5.out.2.2.2
       have htt:Tn (fun q=>q=hb∨q=nb) w5 we:=(HS.out.2.1.mono (fun q e=> .inl e)).trans (ht.mono (fun q e=> .inr e))
       have ho1:=HA.out.1.tnH htt (fun e=>by have:=HB.out.1;have:=HB.out.2;omega)
       have ho2:=HA.out.2.tnH htt (fun e=>by have:=HB.out.1;have:=HB.out.2;omega)
       have hbe:Below w.heap.size w we:=H5.out.2.2.1.trans (htt.below (by omega) (fun q e=>by have:=HB.out.1;have:=HB.out.2;omega))
       have hne:nb<we.heap.size:=hm.lt
       have hhe:hb<we.heap.size:=hmh.lt
       have H2:=aB (aA hm (aA hmh (aA ho1 (aA ho2 hbe))))
       clear hm hmh htt ho1 ho2 hbe hfull ht
       go_wp2_with (at_range;refine jM rfl _ rfl und_mapN rfl (show eS kW Value.string _ (some nb) (aU e.ns) from H2.out.1) ?_;intro w8 hr8 hb8 hz8;have H8:=aB (aA hr8 hb8);clear hr8 hb8)
       try go_frame
       go_loopw [11,44] (fun ol _ wr=>∃ (todo M:List KV),gZ kW Value.string wr (some nb) we.heap.size (aU e.ns) todo∧bE eNt wr (we.heap.size+1) ol M∧(M++todo.filter (fun p=>decide (gF s.ns p.1≠p.2))).Perm (eR s.ns e.ns)∧Below we.heap.size we wr∧we.heap.size+1≤wr.heap.size) (fun _ _ wr=>leftN wr (some nb) we.heap.size)
       case atStart=>exact⟨aU e.ns,[],H8.out.1,World.ownsRow_nil _ _ _ _,by unfold eR;simp,H8.out.2,by omega⟩
       case round=>
        obtain⟨todo,M,hr,ho,hp,hb',hzr⟩:=hrel
        have hMl:M.length≤400000:=by
         have h1:=hp.length_eq
         rw[List.length_append]at h1
         have h2:(eR s.ns e.ns).length≤(aU e.ns).length:=List.length_filter_le _ _
         have h3:=baseN_len e.ns
         have:=HL.out.2.2.2
         omega
        obtain⟨la,lc,rfl,_,_⟩:=aI ho
        have HRN:=aB (aA hr (aA ho (aA hp (aA hb' hzr))))
        have HB2:=aB (aA (H2.out.2.2.1.below (hb'.mono (Nat.le_refl _))) (H2.out.2.2.2.1.below hb'))
        clear hr ho hp hb'
        go_wp2_with (at_next;refine lA rfl _ rfl rfl HRN.out.1 ?_ ?_)
        · intro h0
          have hpm:M.Perm (eR s.ns e.ns):=by
           have:=HRN.out.2.2.1
           rw[h0]at this
           simpa using this
          have e0:=HB2.out.1.z0
          have e1:=HB2.out.1.z1
          have e2:=HB2.out.1.z2
          have e3:=HB2.out.1.z3
          have e4:=HB2.out.1.z4
          have g4:=HB2.out.1.zf 4
          have r0:=HB2.out.2.z0
          have r1:=HB2.out.2.z1
          have r2:=HB2.out.2.z2
          have r3:=HB2.out.2.z3
          have r4:=HB2.out.2.z4
          have q0:=HB2.out.2.zf 0
          have q1:=HB2.out.2.zf 1
          have q2:=HB2.out.2.zf 2
          have q3:=HB2.out.2.zf 3
          have q4:=HB2.out.2.zf 4
          obtain⟨ml,hml⟩:∃ ml,M.length=ml:=⟨_,rfl⟩
          have HML:=aB (aA hml (aA hpm h0))
          rw[hml]
          clear hml hpm h0
          go_wp2_with fail
          have hx:=HB2.out.2.tn (w':=wr.setCell ⟨w.heap.size+1,4,none⟩ (.slice la ml lc)) tn_setS (show ¬ w.heap.size+2=w.heap.size+1 by omega)
          have h6:=cells5 hx (y0:= .slice xa xn xc) (y1:= .slice ya yn yc) (y2:= .int .i64 e.log) (y3:= .slice ma mn mc) (y4:= .slice la ml lc)
          have hsw:=H5.out.2.2.2
          have hs1:=H2.out.2.2.2.2.size
          have hs2:=HRN.out.2.2.2.1.size
          have hb1:=HB.out.1
          have hb2:=HB.out.2
          have hBel:=(H2.out.2.2.2.2.trans (HRN.out.2.2.2.1.mono hs1)).trans ((tn_setS (w:=wr) (b:=w.heap.size+1) (j:=4) (v:= .slice la ml lc)).below (B:=w.heap.size) (by omega) (fun q hq=>by omega))
          have hBel2:=hBel.trans ((tn5 (w:=wr.setCell ⟨w.heap.size+1,4,none⟩ (.slice la ml lc)) (b:=w.heap.size+2) (y0:= .slice xa xn xc) (y1:= .slice ya yn yc) (y2:= .int .i64 e.log) (y3:= .slice ma mn mc) (y4:= .slice la ml lc)).below (B:=w.heap.size) (Nat.le_trans (by omega) hBel.size) (fun q hq=>by omega))
          have hown:=HRN.out.2.1
          rw[HML.out.1]at hown
          have hown2:=(tn_setS (w:=wr) (b:=w.heap.size+1) (j:=4) (v:= .slice la ml lc)).row hown (fun q hq h9=>by have:=(hown.lt q hq).1;omega)
          have hown3:=(tn5 (w:=wr.setCell ⟨w.heap.size+1,4,none⟩ (.slice la ml lc)) (b:=w.heap.size+2) (y0:= .slice xa xn xc) (y1:= .slice ya yn yc) (y2:= .int .i64 e.log) (y3:= .slice ma mn mc) (y4:= .slice la ml lc)).row hown2 (fun q hq h9=>by have:=(hown.lt q hq).1;omega)
          (try simp only[Exit.inBlock,Exit.then])
          refine bodyPost_ret (eX rfl rfl (load_ed h6.z0 h6.z1 h6.z2 h6.z3 h6.z4)) rfl ⟨_,M,rfl,HML.out.2.1,⟨_,_,_,_,rfl,HE.out.1.below hBel2,HE.out.2.1.below hBel2,HE.out.2.2.below hBel2,bE.rda (e:=eNt) hown3⟩,hBel2⟩
        · intro pre kp vp post w9 htd hr9 ht9 hz9 hen
          try simp only[kW]at hen
          have ho9:bE eNt w9 (we.heap.size+1) (.slice la M.length lc) M:=ht9.row HRN.out.2.1 (fun q hq h9=>by have:=(HRN.out.2.1.lt q hq).1;omega)
          have hb9:Below we.heap.size we w9:=HRN.out.2.2.2.1.trans (ht9.below HRN.out.2.2.2.1.size (fun k hk=>by omega))
          have hh9:eS kW Value.string w9 (some hb) (aU s.ns):=(H2.out.2.1.below hb9:aL _ _ _ _ _)
          have hzz:we.heap.size+1≤w9.heap.size:=by omega
          have H9:=aB (aA hr9 (aA ho9 (aA hb9 (aA htd hh9))))
          clear hr9 ht9 ho9 hb9 htd hz9 hh9
          try simp only[kW]
          obtain⟨hv,hhv⟩:∃ hv,(aH (aU s.ns) kp).getD ByteArray.empty=hv:=⟨_,rfl⟩
          by_cases hne:hv=vp
          · subst hne
            have s1:(hv.toList == hv.toList)=true:=beq_self_eq_true _
            have HV:=aB hhv
            clear hhv
            go_wp2_with (at_lookup;refine wpl_atD (cv:=Value.string) rfl _ _ rfl keyN und_mapN (zeroStr _) rfl H9.out.2.2.2.2 kp rfl ?_;rw[HV.out])
            have hperm:(M++(pre++post).filter (fun p=>decide (gF s.ns p.1≠p.2))).Perm (eR s.ns e.ns):=by
             have h1:=HRN.out.2.2.1
             rw[H9.out.2.2.2.1]at h1
             have hc:decide (gF s.ns (kp,hv).1≠(kp,hv).2)=false:=decide_eq_false (fun e=>e HV.out)
             have h2:(pre++(kp,hv)::post).filter (fun p=>decide (gF s.ns p.1≠p.2))=(pre++post).filter (fun p=>decide (gF s.ns p.1≠p.2)):=by
              rw[lP,lP,List.filter_cons_of_neg (by rw[hc];exact Bool.false_ne_true)]
             rwa [h2]at h1
            have hmeas:leftN w9 (some nb) we.heap.size<leftN wr (some nb) we.heap.size:=by
             rw[H9.out.1.left,HRN.out.1.left,H9.out.2.2.2.1]
             simp
            try go_roundw
            all_goals first
             |exact⟨⟨pre++post,M,H9.out.1,H9.out.2.1,hperm,H9.out.2.2.1,hzz⟩,hmeas⟩
             |exact⟨pre++post,M,H9.out.1,H9.out.2.1,hperm,H9.out.2.2.1,hzz⟩
             |exact hmeas
          · have s1:=fstr_ne hne
            have hhad:gF s.ns kp≠vp:=fun e=>hne (hhv.symm.trans e)
            have HV:=aB (aA hhv hhad)
            clear hhv hhad hne
            go_wp2_with (first
             |(at_builtin;refine fK eNt rfl _ _ rfl rfl rfl (l:=M) (l2:=[((kp,vp):KV)]) (B:=we.heap.size+1) (aD H9.out.2.1 ((Below.refl _ _).alloc (Nat.le_refl _) _)) (eW (e:=eNt) w9 ((kp,vp):KV) _ _ rfl _) (by simp;omega) (by simp;omega) ?_;intro a' cp' w13 ho13 hb13 hg13 hd13;have H13:=aB (aA ho13 hb13);clear ho13 hb13 hg13 hd13)
             |(at_lookup;refine wpl_atD (cv:=Value.string) rfl _ _ rfl keyN und_mapN (zeroStr _) rfl H9.out.2.2.2.2 kp rfl ?_;rw[HV.out.1]))
            have hbb:Below (we.heap.size+1) w9 w13:=((Below.refl (we.heap.size+1) w9).alloc (by omega) _).trans H13.out.2
            have hr13:=H9.out.1.tn (iV hbb) (fun b hb=>by injection hb with hb;omega) (by omega)
            have HF:=aB (aA hbb hr13)
            clear hbb hr13
            go_roundw
            case rel=>
             refine⟨pre++post,M++[(kp,vp)],HF.out.2,H13.out.1,?_,H9.out.2.2.1.trans (HF.out.1.mono (by omega)),by have:=HF.out.1.size;omega⟩
             refine List.Perm.trans ?_ HRN.out.2.2.1
             rw[H9.out.2.2.2.1]
             have hc:decide (gF s.ns (kp,vp).1≠(kp,vp).2)=true:=decide_eq_true HV.out.2
             have h2:(pre++(kp,vp)::post).filter (fun p=>decide (gF s.ns p.1≠p.2))=pre.filter (fun p=>decide (gF s.ns p.1≠p.2))++(kp,vp)::post.filter (fun p=>decide (gF s.ns p.1≠p.2)):=by
              rw[lP,List.filter_cons_of_pos (p:=fun p:KV=>decide (gF s.ns p.1≠p.2)) hc]
             have h3:(pre++post).filter (fun p=>decide (gF s.ns p.1≠p.2))=pre.filter (fun p=>decide (gF s.ns p.1≠p.2))++post.filter (fun p=>decide (gF s.ns p.1≠p.2)):=lP _ _ _
             rw[h2,h3,List.append_assoc]
             refine List.Perm.append_left _ ?_
             rw[List.singleton_append]
             exact List.perm_middle.symm
            case measure=>
             rw[HF.out.2.left,HRN.out.1.left,H9.out.2.2.2.1]
             simp
end
end Go.Proofs.YtpfibkgmfapnjaaGreatDoor
