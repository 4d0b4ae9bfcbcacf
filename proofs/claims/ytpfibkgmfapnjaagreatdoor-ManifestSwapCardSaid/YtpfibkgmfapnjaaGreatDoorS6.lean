/- Manifest: do tables of a level meet; are notes too long. -/
import Derived.Test.YtpfibkgmfapnjaaGreatDoorS3
import Derived.Test.YtpfibkgmfapnjaaGreatDoorS2
import Derived.Test.YtpfibkgmfapnjaaGreatDoorShS
set_option linter.unusedSimpArgs false
set_option linter.unusedVariables false
namespace Go.Proofs.YtpfibkgmfapnjaaGreatDoor
section
open Go.RowKit
theorem eD {w:World} {a:Option Addr} {n c i:Nat} {l:List Fi} (h:RdF w (.slice a n c) l) (hi:i<l.length):∃ b off,a=some ⟨b,off,none⟩∧b<w.heap.size∧
 w.cell? ⟨b,off+i*6,none⟩=some (.int .i64 l[i].lv)∧w.cell? ⟨b,off+i*6+1,none⟩=some (.int .i64 l[i].nu)∧w.cell? ⟨b,off+i*6+2,none⟩=some (.int .i64 l[i].ct)∧
 w.cell? ⟨b,off+i*6+3,none⟩=some (.int .i64 l[i].sz)∧w.cell? ⟨b,off+i*6+4,none⟩=some (.string l[i].f)∧w.cell? ⟨b,off+i*6+5,none⟩=some (.string l[i].l):=by
 obtain⟨b,off,h1,h2,_,_,_,hc⟩:=h.at_ hi
 exact⟨b,off,h1,h2,hc 0 _ rfl,hc 1 _ rfl,hc 2 _ rfl,hc 3 _ rfl,hc 4 _ rfl,hc 5 _ rfl⟩
theorem cY {w:World} {a:Option Addr} {n c i:Nat} {l:List KV} (h:RdN w (.slice a n c) l) (hi:i<l.length):∃ b off,a=some ⟨b,off,none⟩∧b<w.heap.size∧
 w.cell? ⟨b,off+i*2,none⟩=some (.string l[i].1)∧w.cell? ⟨b,off+i*2+1,none⟩=some (.string l[i].2):=by
 obtain⟨b,off,h1,h2,_,_,_,hc⟩:=h.at_ hi
 exact⟨b,off,h1,h2,hc 0 _ rfl,hc 1 _ rfl⟩
theorem textsN_take (l:List KV) (i:Nat) (hi:i<l.length):aJ (l.take (i+1))=aJ (l.take i)+l[i].2.size:=by
 unfold aJ
 rw[List.take_succ_eq_append_getElem hi,List.map_append,List.sum_append]
 simp
theorem textsN_le (l:List KV) (i:Nat):aJ (l.take i)≤aJ l:=by
 have:l=l.take i++l.drop i:=(List.take_append_drop i l).symm
 conv=>rhs;rw[this]
 unfold aJ
 rw[List.map_append,List.sum_append]
 omega
set_option maxHeartbeats 1000000 in
theorem long_any {w:World} {x:Value} {l:List KV} (h:RdN w x l) (hl:l.length≤1000000000000000000) (ht:aJ l≤1000000000000000000):
 Calls Tryz.prog 137 #[x] w fun e w'=>e= .returned (.bool (decide (50000<aJ l)))∧Below w.heap.size w w':=by
 obtain⟨a,c,rfl,hc1,hc2⟩:=h.form
 obtain⟨n,hn⟩:∃ n,l.length=n:=⟨_,rfl⟩
 rw[hn]at h hl hc1 ⊢
 have H:=aB (aA h (aA ht hn))
 clear h ht hn
 go_enter Tryz.func137,Tryz.ntmps137
 go_wp2_with fail
 go_loopw [3,8] (fun s y wr=>∃ i:Nat,i≤n∧y= .int .i64 (i:Int)∧s= .int .i64 (aJ (l.take i):Int)∧Below w.heap.size w wr) (fun _ y _=>n - (intOf y).toNat)
 case atStart=>exact⟨0,by omega,rfl,rfl,Below.refl _ _⟩
 case round=>
  obtain⟨i,hi,rfl,rfl,hb⟩:=hrel
  have hle:=textsN_le l i
  by_cases hlt:i<n
  · have hil:i<l.length:=by rw[H.out.2.2];exact hlt
    obtain⟨b,off,rfl,hbl,c0,c1⟩:=cY H.out.1 hil
    have d0:=(hb.cell (p:=⟨b,off+i*2,none⟩) hbl).trans c0
    have d1:=(hb.cell (p:=⟨b,off+i*2+1,none⟩) hbl).trans c1
    have hnx:=textsN_take l i hil
    have hle2:=textsN_le l (i+1)
    have ht:=H.out.2.1
    obtain⟨kp,hkp⟩:∃ z,l[i].1=z:=⟨_,rfl⟩
    obtain⟨vp,hvp⟩:∃ z,l[i].2=z:=⟨_,rfl⟩
    rw[hkp]at d0
    rw[hvp]at d1 hnx
    obtain⟨q,hq⟩:∃ q,aJ (l.take i)=q:=⟨_,rfl⟩
    rw[hq]at hnx hle ⊢
    have hq2:q+vp.size≤1000000000000000000:=by omega
    have HB:=aB (aA hb hnx)
    have z0:(i:Int)<(n:Int):=by omega
    have z1:(0:Int)≤(i:Int):=by omega
    clear c0 c1 hb hnx hkp hvp hq hle hle2 ht
    go_wp2_with fail
    go_roundw
    case rel=>exact⟨i+1,by omega,by go_num,by rw[HB.out.2];go_num,HB.out.1.alloc HB.out.1.size _⟩
    case measure=>simp[intOf];omega
  · obtain rfl:i=n:=by omega
    have hfull:l.take i=l:=by rw[← H.out.2.2];exact List.take_length
    rw[hfull]
    obtain⟨q,hq⟩:∃ q,aJ l=q:=⟨_,rfl⟩
    rw[hq]
    have HB:=aB hb
    have HQ:=aB hq
    have z0:¬ (i:Int)<(i:Int):=by omega
    clear hb hfull hq hle
    by_cases h5:50000<q
    · have z5:(50000:Int)<(q:Int):=by omega
      go_wp2_with fail
      go_ret
      exact⟨by rw[HQ.out,decide_eq_true h5];rfl,HB.out⟩
    · have z5:¬ (50000:Int)<(q:Int):=by omega
      go_wp2_with fail
      go_ret
      exact⟨by rw[HQ.out,decide_eq_false h5];rfl,HB.out⟩
set_option maxRecDepth 100000 in
set_option maxHeartbeats 2000000 in
theorem mmeet_any {w:World} {x:Value} {l:List Fi} (h:RdF w x l) (hl:l.length≤1000000):
 Calls Tryz.prog 136 #[x] w fun e w'=>((fI l∧e= .returned (.bool false))∨(¬ fI l∧e= .returned (.bool true)))∧Below w.heap.size w w':=by
 obtain⟨a,c,rfl,hc1,hc2⟩:=h.form
 obtain⟨n,hn⟩:∃ n,l.length=n:=⟨_,rfl⟩
 rw[hn]at h hl hc1 ⊢
 have H:=aB (aA h hn)
 clear h hn
 go_enter Tryz.func136,Tryz.ntmps136
 go_wp2_with fail
 go_loopw [9] (fun y wr=>∃ i:Nat,i≤n∧y= .int .i64 (i:Int)∧fI (l.take i)∧Below w.heap.size w wr) (fun y _=>n - (intOf y).toNat)
 case atStart=>exact⟨0,by omega,rfl,List.Pairwise.nil,Below.refl _ _⟩
 case round=>
  obtain⟨i,hi,rfl,hap,hb⟩:=hrel
  obtain⟨wo,rfl⟩:∃ wo,wo=wr:=⟨_,rfl⟩
  by_cases hlt:i<n
  · have hil:i<l.length:=by rw[H.out.2];exact hlt
    obtain⟨b,off,rfl,hbl,c0,c1,c2,c3,c4,c5⟩:=eD H.out.1 hil
    have hblo:b<wo.heap.size:=Nat.lt_of_lt_of_le hbl hb.size
    have e0:=(hb.cell (p:=⟨b,off+i*6,none⟩) hbl).trans c0
    have e1:=(hb.cell (p:=⟨b,off+i*6+1,none⟩) hbl).trans c1
    have e2:=(hb.cell (p:=⟨b,off+i*6+2,none⟩) hbl).trans c2
    have e3:=(hb.cell (p:=⟨b,off+i*6+3,none⟩) hbl).trans c3
    have e4:=(hb.cell (p:=⟨b,off+i*6+4,none⟩) hbl).trans c4
    have e5:=(hb.cell (p:=⟨b,off+i*6+5,none⟩) hbl).trans c5
    have htk:l.take (i+1)=l.take i++[l[i]]:=List.take_succ_eq_append_getElem hil
    have hmet:∀ j (hj:j<i),metF l[i] (l[j]'(by omega))→¬ fI l:=fun j hj hm hA=>List.pairwise_iff_getElem.1 hA j i (by omega) hil hj hm
    have hstep:(∀ j (hj:j<i),¬ metF l[i] (l[j]'(by omega)))→fI (l.take (i+1)):=by
     intro hno
     rw[htk]
     refine List.pairwise_append.2 ⟨hap,List.pairwise_singleton _ _,fun p hp q hq=>?_⟩
     rw[List.mem_singleton]at hq
     subst hq
     obtain⟨j,hj,rfl⟩:=List.mem_iff_getElem.1 hp
     rw[List.length_take]at hj
     rw[List.getElem_take]
     exact hno j (by omega)
    obtain⟨A,hA⟩:∃ A,l[i]=A:=⟨_,rfl⟩
    rw[hA]at e0 e1 e2 e3 e4 e5 hstep hmet
    obtain⟨alv,anu,act,asz,af,al⟩:=A
    simp only at e0 e1 e2 e3 e4 e5
    obtain⟨w4,hw4⟩:∃ w4,w4=wo.alloc (.cells #[.int .i64 alv,.int .i64 anu,.int .i64 act,.int .i64 asz,.string af,.string al] 79):=⟨_,rfl⟩
    have p0:w4.cell? ⟨wo.heap.size,0,none⟩=some (.int .i64 alv):=by rw[hw4];simp[go_sem]
    have p4:w4.cell? ⟨wo.heap.size,4,none⟩=some (.string af):=by rw[hw4];simp[go_sem]
    have p5:w4.cell? ⟨wo.heap.size,5,none⟩=some (.string al):=by rw[hw4];simp[go_sem]
    have hb4:Below w.heap.size w w4:=by rw[hw4];exact hb.alloc hb.size _
    have hz4:wo.heap.size<w4.heap.size:=by rw[hw4];simp
    have HI:=aB (aA hstep (aA hmet (aA hb4 (aA p0 (aA p4 (aA p5 hz4))))))
    have z0:(i:Int)<(n:Int):=by omega
    have z1:(0:Int)≤(i:Int):=by omega
    have z2:((i:Int)).toNat=i:=by omega
    have z3:(i:Int)≤(c:Int):=by omega
    clear c0 c1 c2 c3 c4 c5 htk hstep hmet hap hb hb4 p0 p4 p5 hA
    go_wp2_with fail
    rw[← hw4]
    clear hw4 e0 e1 e2 e3 e4 e5
    go_wp2_with fail
    go_loopw [18] (fun y wx=>∃ j:Nat,j≤i∧y= .int .i64 (j:Int)∧(∀ k (hk:k<j) (hki:k<i),¬ metF ⟨alv,anu,act,asz,af,al⟩ (l[k]'(by omega)))∧Below w4.heap.size w4 wx) (fun y _=>i - (intOf y).toNat)
    case atStart=>exact⟨0,by omega,rfl,fun k hk=>by omega,Below.refl _ _⟩
    case round=>
     obtain⟨j,hj,rfl,hno,hbx⟩:=hrel
     by_cases hji:j<i
     · have hjl:j<l.length:=by omega
       have q0:=(hbx.cell (p:=⟨wo.heap.size,0,none⟩) HI.out.2.2.2.2.2.2).trans HI.out.2.2.2.1
       have q4:=(hbx.cell (p:=⟨wo.heap.size,4,none⟩) HI.out.2.2.2.2.2.2).trans HI.out.2.2.2.2.1
       have q5:=(hbx.cell (p:=⟨wo.heap.size,5,none⟩) HI.out.2.2.2.2.2.2).trans HI.out.2.2.2.2.2.1
       obtain⟨b',off',hbb,hbl',c0,c1,c2,c3,c4,c5⟩:=eD H.out.1 hjl
       injection hbb with hbb
       injection hbb with hb1 hb2 _
       subst hb1 hb2
       have hbw:Below w.heap.size w wr:=HI.out.2.2.1.trans (hbx.mono HI.out.2.2.1.size)
       have e0:=(hbw.cell (p:=⟨b,off+j*6,none⟩) hbl).trans c0
       have e1:=(hbw.cell (p:=⟨b,off+j*6+1,none⟩) hbl).trans c1
       have e2:=(hbw.cell (p:=⟨b,off+j*6+2,none⟩) hbl).trans c2
       have e3:=(hbw.cell (p:=⟨b,off+j*6+3,none⟩) hbl).trans c3
       have e4:=(hbw.cell (p:=⟨b,off+j*6+4,none⟩) hbl).trans c4
       have e5:=(hbw.cell (p:=⟨b,off+j*6+5,none⟩) hbl).trans c5
       have hmj:=HI.out.2.1 j hji
       have hnx:∀ (hm:¬ metF ⟨alv,anu,act,asz,af,al⟩ l[j]),∀ k (hk:k<j+1) (hki:k<i),¬ metF ⟨alv,anu,act,asz,af,al⟩ (l[k]'(by omega)):=by
        intro hm k hk hki
        by_cases hkj:k=j
        · subst hkj;exact hm
        · exact hno k (by omega) hki
       obtain⟨B,hB⟩:∃ B,l[j]=B:=⟨_,rfl⟩
       rw[hB]at e0 e1 e2 e3 e4 e5 hmj hnx
       obtain⟨blv,bnu,bct,bsz,bf,bl⟩:=B
       simp only at e0 e1 e2 e3 e4 e5
       unfold metF at hmj hnx
       simp only at hmj hnx
       obtain⟨w5,hw5⟩:∃ w5,wr.alloc (.cells #[.int .i64 blv,.int .i64 bnu,.int .i64 bct,.int .i64 bsz,.string bf,.string bl] 79)=w5:=⟨_,rfl⟩
       have r0:w5.cell? ⟨wr.heap.size,0,none⟩=some (.int .i64 blv):=by rw[← hw5];simp[go_sem]
       have r4:w5.cell? ⟨wr.heap.size,4,none⟩=some (.string bf):=by rw[← hw5];simp[go_sem]
       have r5:w5.cell? ⟨wr.heap.size,5,none⟩=some (.string bl):=by rw[← hw5];simp[go_sem]
       have hb5:Below wr.heap.size wr w5:=by rw[← hw5];exact(Below.refl _ _).alloc (Nat.le_refl _) _
       have q0':=(hb5.cell (p:=⟨wo.heap.size,0,none⟩) (World.block_lt_of_cell? _ _ q0)).trans q0
       have q4':=(hb5.cell (p:=⟨wo.heap.size,4,none⟩) (World.block_lt_of_cell? _ _ q4)).trans q4
       have q5':=(hb5.cell (p:=⟨wo.heap.size,5,none⟩) (World.block_lt_of_cell? _ _ q5)).trans q5
       have hb45:Below w4.heap.size w4 w5:=hbx.trans (hb5.mono hbx.size)
       have hbw5:Below w.heap.size w w5:=hbw.trans (hb5.mono hbw.size)
       have HJ:=aB (aA hmj (aA hnx (aA hb45 hbw5)))
       have y0:(j:Int)<(i:Int):=by omega
       have y1:(0:Int)≤(j:Int):=by omega
       clear c0 c1 c2 c3 c4 c5 hmj hnx hb45 hbw5 hb5 hbw hbx hno hB q0 q4 q5
       by_cases m1:1≤alv
       · by_cases m2:alv=blv
         · subst m2
           have t2:(alv == alv)=true:=beq_self_eq_true _
           by_cases m3:kc af bl≤0
           · by_cases m4:kc bf al≤0
             · have hA:=HJ.out.1 ⟨m1,rfl,m3,m4⟩
               have HA:=aB hA
               clear hA
               go_wp2_with (go_at_call 67;refine(bS _ _ _).mono ?_;rintro e w' ⟨rfl,rfl⟩)
               go_ret
               exact⟨.inr ⟨HA.out,rfl⟩,HJ.out.2.2.2⟩
             · have hm:=HJ.out.2.1 (fun h=>m4 h.2.2.2)
               have HN:=aB hm
               clear hm
               go_wp2_with (go_at_call 67;refine(bS _ _ _).mono ?_;rintro e w' ⟨rfl,rfl⟩)
               go_roundw
               case rel=>first|exact⟨j+1,by omega,by go_num,HN.out,HJ.out.2.2.1⟩|exact⟨.int .i64 ((j:Int)+1),⟨j+1,by omega,by go_num,HN.out,HJ.out.2.2.1⟩,rfl⟩|exact⟨_,_,.int .i64 ((j:Int)+1),⟨j+1,by omega,by go_num,HN.out,HJ.out.2.2.1⟩,rfl,rfl,rfl⟩
               case measure=>simp[intOf];omega
           · have hm:=HJ.out.2.1 (fun h=>m3 h.2.2.1)
             have HN:=aB hm
             clear hm
             go_wp2_with (go_at_call 67;refine(bS _ _ _).mono ?_;rintro e w' ⟨rfl,rfl⟩)
             go_roundw
             case rel=>first|exact⟨j+1,by omega,by go_num,HN.out,HJ.out.2.2.1⟩|exact⟨.int .i64 ((j:Int)+1),⟨j+1,by omega,by go_num,HN.out,HJ.out.2.2.1⟩,rfl⟩|exact⟨_,_,.int .i64 ((j:Int)+1),⟨j+1,by omega,by go_num,HN.out,HJ.out.2.2.1⟩,rfl,rfl,rfl⟩
             case measure=>simp[intOf];omega
         · have t2:(alv == blv)=false:=beq_eq_false_iff_ne.2 m2
           have hm:=HJ.out.2.1 (fun h=>m2 h.2.1)
           have HN:=aB hm
           clear hm
           go_wp2_with (go_at_call 67;refine(bS _ _ _).mono ?_;rintro e w' ⟨rfl,rfl⟩)
           go_roundw
           case rel=>first|exact⟨j+1,by omega,by go_num,HN.out,HJ.out.2.2.1⟩|exact⟨.int .i64 ((j:Int)+1),⟨j+1,by omega,by go_num,HN.out,HJ.out.2.2.1⟩,rfl⟩|exact⟨_,_,.int .i64 ((j:Int)+1),⟨j+1,by omega,by go_num,HN.out,HJ.out.2.2.1⟩,rfl,rfl,rfl⟩
           case measure=>simp[intOf];omega
       · have hm:=HJ.out.2.1 (fun h=>m1 h.1)
         have HN:=aB hm
         clear hm
         go_wp2_with (go_at_call 67;refine(bS _ _ _).mono ?_;rintro e w' ⟨rfl,rfl⟩)
         go_roundw
         case rel=>first|exact⟨j+1,by omega,by go_num,HN.out,HJ.out.2.2.1⟩|exact⟨.int .i64 ((j:Int)+1),⟨j+1,by omega,by go_num,HN.out,HJ.out.2.2.1⟩,rfl⟩|exact⟨_,_,.int .i64 ((j:Int)+1),⟨j+1,by omega,by go_num,HN.out,HJ.out.2.2.1⟩,rfl,rfl,rfl⟩
         case measure=>simp[intOf];omega
     · obtain rfl:j=i:=by omega
       have hst:=HI.out.1 (fun k hk=>hno k hk hk)
       have hbw:Below w.heap.size w wr:=HI.out.2.2.1.trans (hbx.mono HI.out.2.2.1.size)
       have HJ:=aB (aA hst hbw)
       have y0:¬ (j:Int)<(j:Int):=by omega
       clear hst hbw hbx hno
       go_wp2_with fail
       go_roundw
       case rel=>exact⟨j+1,by omega,by go_num,HJ.out.1,HJ.out.2⟩
       case measure=>simp[intOf];omega
  · obtain rfl:i=n:=by omega
    have hfull:l.take i=l:=by rw[← H.out.2];exact List.take_length
    rw[hfull]at hap
    have HB:=aB (aA hap hb)
    have z0:¬ (i:Int)<(i:Int):=by omega
    clear hap hb hfull
    go_wp2_with fail
    go_ret
    exact⟨.inl ⟨HB.out.1,rfl⟩,HB.out.2⟩
end
section
open Go.RowKit
def csetL:List UInt8:=[97,98,99,100,101,102,103,104,105,106,107,108,109,110,111,112,113,114,115,116,117,118,119,120,121,122,48,49,50,51,52,53,54,55,56,57,46,45,95,47]
def csetB:ByteArray:=⟨csetL.toArray⟩
theorem cset_okc (c:UInt8):csetL.contains c=okc c:=by
 have h:(List.range 256).all (fun n=>csetL.contains (UInt8.ofNat n) == okc (UInt8.ofNat n))=true:=by decide+kernel
 have h2:=List.all_eq_true.1 h c.toNat (List.mem_range.2 c.toNat_lt)
 simpa using h2
theorem cset_ascii:∀ (j:Nat) b,csetB.data.toList[j]?=some b→b.toNat<128:=by
 have h:csetL.all (fun b=>decide (b.toNat<128))=true:=by decide+kernel
 intro j b hb
 have hm:b∈csetL:=List.mem_of_getElem? hb
 simpa using List.all_eq_true.1 h b hm
def TlE (s:ByteArray) (e:Ending):Prop:=∃ t:ByteArray,e= .returned (.string t)∧∃ k,k≤s.size∧t=⟨(s.data.toList.drop k).toArray⟩∧(∀ (j:Nat) b,j<k→s.data.toList[j]?=some b→csetL.contains b=true)∧∀ b,s.data.toList[k]?=some b→csetL.contains b=false
def TrE (s:ByteArray) (e:Ending):Prop:=∃ t:ByteArray,e= .returned (.string t)∧∃ k,k≤s.size∧t=⟨(s.data.toList.take k).toArray⟩∧(∀ (j:Nat) b,k≤j→s.data.toList[j]?=some b→csetL.contains b=true)∧∀ b,0<k→s.data.toList[k - 1]?=some b→csetL.contains b=false
set_option maxHeartbeats 2000000 in
set_option maxRecDepth 1000000 in
theorem tl_any (s:ByteArray) (b:Nat) (w:World) (hset:∀ x:UInt8,w.cell? ⟨b,x.toNat,none⟩=some (.bool (csetL.contains x))):
 Calls Tryz.prog 223 #[.string s,.pointer (some ⟨b,0,none⟩)] w fun e w'=>TlE s e∧w=w':=by
 have HS:=aB hset
 clear hset
 go_enter Tryz.func223,Tryz.ntmps223
 go_wp2
 go_loop [0] (fun v=>∃ k:Nat,k≤s.size∧v= .string ⟨(s.data.toList.drop k).toArray⟩∧∀ (j:Nat) b,j<k→s.data.toList[j]?=some b→csetL.contains b=true) (fun v=>Lib.strSize v)
 case atStart=>exact⟨0,Nat.zero_le _,by simp,fun j b hj=>absurd hj (Nat.not_lt_zero _)⟩
 case round=>
  obtain⟨k,hk,rfl,hc⟩:=hrel
  have hts:(⟨(s.data.toList.drop k).toArray⟩:ByteArray).size=s.size - k:=by rw[Lib.size_mk,List.length_drop,←Lib.size_eq]
  have hb0:∀ h,s.data.toList[k]?=some ((⟨(s.data.toList.drop k).toArray⟩:ByteArray)[0]'h):=by
   intro h
   rw[← Lib.getElem_mk (s.data.toList.drop k) 0 h,List.getElem?_drop]
   rfl
  have hx1:(⟨(s.data.toList.drop k).toArray⟩:ByteArray).extract 1 (s.size - k)=⟨(s.data.toList.drop (k+1)).toArray⟩:=by
   rw[Lib.extract_mk,List.drop_drop,List.take_of_length_le (by simp;omega)]
  have hK:=aB hc
  clear hc
  obtain⟨t,ht⟩:∃ t,(⟨(s.data.toList.drop k).toArray⟩:ByteArray)=t:=⟨_,rfl⟩
  rw[ht]at hts hb0 hx1 ⊢
  have hK3:=aB ht
  clear ht
  have hkl:=aB (show k≤s.data.toList.length by rw[← Lib.size_eq];exact hk)
  by_cases h0:0<t.size
  · have hbk:=hb0 h0
    clear hb0
    have hK2:=aB hbk
    clear hbk
    have hcx:=HS.out (t[0]'h0)
    cases hin:csetL.contains (t[0]'h0)<;>rw[hin]at hcx
    · have HI:=aB hin
      clear hin
      go_wp2_with (go_at_call 275;refine(Tryz.asciiSet_contains _ (t[0]'h0) _ _ hcx).mono ?_;rintro e w' ⟨rfl,hw⟩;rw[hw])
      go_ret
      refine⟨⟨t,rfl,k,hk,hK3.out.symm,hK.out,fun b hb=>?_⟩,rfl⟩
      rw[hK2.out]at hb
      rw[← Option.some.inj hb]
      exact HI.out
    · have HI:=aB hin
      clear hin
      go_wp2_with (go_at_call 275;refine(Tryz.asciiSet_contains _ (t[0]'h0) _ _ hcx).mono ?_;rintro e w' ⟨rfl,hw⟩;rw[hw])
      refine⟨⟨k+1,by omega,rfl,fun j b hj hb=>?_⟩,?_⟩
      · by_cases e:j=k
        · subst e
          have h3:s.data.toList[j]?=some b:=by simpa using hb
          rw[hK2.out]at h3
          rw[← Option.some.inj h3]
          exact HI.out
        · exact hK.out j b (by omega) (by simpa using hb)
      · rw[Lib.strSize_string,Lib.strSize_string,Lib.size_mk,List.length_drop,←Lib.size_eq]
        omega
  · clear hb0
    go_wp2
    go_ret
    refine⟨⟨t,rfl,k,hk,hK3.out.symm,hK.out,fun b hb=>?_⟩,rfl⟩
    have:s.data.toList.length≤k:=by rw[← Lib.size_eq];omega
    simp[List.getElem?_eq_none this]at hb
set_option maxHeartbeats 2000000 in
set_option maxRecDepth 1000000 in
theorem tr_any (s:ByteArray) (b:Nat) (w:World) (hs:s.size≤9223372036854775807) (hset:∀ x:UInt8,w.cell? ⟨b,x.toNat,none⟩=some (.bool (csetL.contains x))):
 Calls Tryz.prog 224 #[.string s,.pointer (some ⟨b,0,none⟩)] w fun e w'=>TrE s e∧w=w':=by
 have HS:=aB hset
 clear hset
 go_enter Tryz.func224,Tryz.ntmps224
 go_wp2
 go_loop [0] (fun v=>∃ k:Nat,k≤s.size∧v= .string ⟨(s.data.toList.take k).toArray⟩∧∀ (j:Nat) b,k≤j→s.data.toList[j]?=some b→csetL.contains b=true) (fun v=>Lib.strSize v)
 case atStart=>
  refine⟨s.size,Nat.le_refl _,?_,fun j b hj hb=>?_⟩
  · rw[Lib.size_eq,List.take_length,Lib.mk_data]
  · have:s.data.toList.length≤j:=by rw[← Lib.size_eq];exact hj
    simp[List.getElem?_eq_none this]at hb
 case round=>
  obtain⟨k,hk,rfl,hc⟩:=hrel
  have hkl:k≤s.data.toList.length:=by rw[← Lib.size_eq];exact hk
  have hts:(⟨(s.data.toList.take k).toArray⟩:ByteArray).size=k:=by rw[Lib.size_mk,List.length_take];omega
  have hb0:∀ h,s.data.toList[k - 1]?=some ((⟨(s.data.toList.take k).toArray⟩:ByteArray)[k - 1]'h):=by
   intro h
   rw[← Lib.getElem_mk (s.data.toList.take k) (k - 1) h,List.getElem?_take]
   rw[hts]at h
   rw[if_pos h]
  have hx1:(⟨(s.data.toList.take k).toArray⟩:ByteArray).extract 0 (k - 1)=⟨(s.data.toList.take (k - 1)).toArray⟩:=by
   rw[Lib.extract_mk,List.drop_zero,List.take_take]
   congr 3
   omega
  have hK:=aB hc
  clear hc
  have hkl':=aB hkl
  clear hkl
  obtain⟨t,ht⟩:∃ t,(⟨(s.data.toList.take k).toArray⟩:ByteArray)=t:=⟨_,rfl⟩
  rw[ht]at hts hb0 hx1 ⊢
  have hK3:=aB ht
  clear ht
  by_cases h0:0<k
  · have h1:k - 1<t.size:=by omega
    have hwr:((k:Int) - 1+9223372036854775808)%18446744073709551616 - 9223372036854775808=((k - 1:Nat):Int):=by omega
    have hbk:=hb0 h1
    clear hb0
    have hK2:=aB hbk
    clear hbk
    have hcx:=HS.out (t[k - 1]'h1)
    cases hin:csetL.contains (t[k - 1]'h1)<;>rw[hin]at hcx
    · have HI:=aB hin
      clear hin
      go_wp2_with (go_at_call 275;refine(Tryz.asciiSet_contains _ (t[k - 1]'h1) _ _ hcx).mono ?_;rintro e w' ⟨rfl,hw⟩;rw[hw])
      go_ret
      refine⟨⟨t,rfl,k,hk,hK3.out.symm,hK.out,fun b _ hb=>?_⟩,rfl⟩
      rw[hK2.out]at hb
      rw[← Option.some.inj hb]
      exact HI.out
    · have HI:=aB hin
      clear hin
      go_wp2_with (go_at_call 275;refine(Tryz.asciiSet_contains _ (t[k - 1]'h1) _ _ hcx).mono ?_;rintro e w' ⟨rfl,hw⟩;rw[hw])
      refine⟨⟨k - 1,by omega,rfl,fun j b hj hb=>?_⟩,?_⟩
      · by_cases e:j=k - 1
        · subst e
          have h3:s.data.toList[k - 1]?=some b:=by simpa using hb
          rw[hK2.out]at h3
          rw[← Option.some.inj h3]
          exact HI.out
        · exact hK.out j b (by omega) (by simpa using hb)
      · have hkl:=hkl'.out
        rw[Lib.strSize_string,Lib.strSize_string,Lib.size_mk,List.length_take]
        omega
  · clear hb0
    go_wp2
    go_ret
    exact⟨⟨t,rfl,k,hk,hK3.out.symm,hK.out,fun b hk0 _=>absurd hk0 h0⟩,rfl⟩
theorem trim_empty {s t:ByteArray} {e:Ending} (h1:TrE s (.returned (.string t))) (h2:TlE t e):∃ u:ByteArray,e= .returned (.string u)∧(u.size=0↔s.data.toList.all okc=true):=by
 obtain⟨t',e1,k,hk,ht,ha,hb⟩:=h1
 injection e1 with e1
 injection e1 with e1
 subst e1
 obtain⟨u,rfl,j,hj,hu,hc,hd⟩:=h2
 have htl:t.data.toList=s.data.toList.take k:=by rw[ht]
 have hkl:k≤s.data.toList.length:=by rw[← Lib.size_eq];exact hk
 have hts:t.size=k:=by rw[Lib.size_eq,htl,List.length_take];omega
 rw[htl]at hc hd hu
 refine⟨u,rfl,?_⟩
 have hus:u.size=k - j:=by rw[hu,Lib.size_mk,List.length_drop,List.length_take];omega
 rw[hus]
 constructor
 · intro h0
   rw[List.all_eq_true]
   intro b hb'
   obtain⟨i,hi⟩:=List.getElem?_of_mem hb'
   rw[← cset_okc]
   rcases Nat.lt_or_ge i k with h|h
   · exact hc i b (by omega) (by rw[List.getElem?_take,if_pos h];exact hi)
   · exact ha i b h hi
 · intro hall
   rcases Nat.eq_zero_or_pos k with h|h
   · omega
   · have hlt:k - 1<s.data.toList.length:=by omega
     have h3:=hb _ h (List.getElem?_eq_getElem hlt)
     rw[cset_okc,List.all_eq_true.1 hall _ (List.getElem_mem hlt)]at h3
     cases h3
theorem info_set:(Tryz.prog.info? 263).map (·.size)=some 256:=by kernel_rfl
set_option maxHeartbeats 8000000 in
set_option maxRecDepth 1000000 in
theorem trim_any (s:ByteArray) (w:World) (h0:0<s.size) (hs:s.size≤9223372036854775807):
 Calls Tryz.prog 140 #[.string s,.string csetB] w fun e w'=>(∃ u:ByteArray,e= .returned (.string u)∧(u.size=0↔s.data.toList.all okc=true))∧Below w.heap.size w w':=by
 have hM:=Tryz.strings_makeASCIISet Tryz.zeroValue263 csetB w (by decide) cset_ascii
 have hemp:csetB.toList.isEmpty=false:=by rw[Lib.toList_data];rfl
 have hemps:s.toList.isEmpty=false:=by
  rw[Lib.toList_data]
  cases h:s.data.toList with
  |nil=>have:=Lib.size_eq s;rw[h,List.length_nil]at this;omega
  |cons _ _=>rfl
 have hn1:((csetB.size:Int) == 1)=false:=by decide
 have hcd:csetB.data.toList=csetL:=rfl
 have hsc:(storeCells ⟨w.heap.size+1,0,none⟩ (Lib.setCells csetB.data.toList).toList 0).run Tryz.prog ((w.alloc (.cells (Lib.setCells csetB.data.toList) 263)).alloc (.cells Tryz.zeroCells263 263))= .ok () ((w.alloc (.cells (Lib.setCells csetB.data.toList) 263)).alloc (.cells (Lib.setCells csetB.data.toList) 263)):=by
  have:=run_storeCells_new (P:=Tryz.prog) (w.alloc (.cells (Lib.setCells csetB.data.toList) 263)) 263 Tryz.zeroCells263 (Lib.setCells csetB.data.toList) (by rw[Lib.setCells_size];exact info_set) (by rw[Lib.setCells_size];kernel_rfl) (Lib.setCells_one _)
  simpa using this
 have hsz:=Lib.setCells_size csetB.data.toList
 have hcellAt:∀ x:UInt8,((w.alloc (.cells (Lib.setCells csetB.data.toList) 263)).alloc (.cells (Lib.setCells csetB.data.toList) 263)).cell? ⟨w.heap.size+1,x.toNat,none⟩=some (.bool (csetL.contains x)):=fun x=>by
  rw[World.cell?_alloc_at _ _ _ _ (by simp),Lib.setCells_at]
  rfl
 have HC:=aB hcellAt
 clear hcellAt hcd
 obtain⟨cb,hcb⟩:∃ cb,csetB=cb:=⟨_,rfl⟩
 rw[hcb]at hM hemp hn1 hsc hsz HC ⊢
 obtain⟨cs,hcs⟩:∃ cs,Lib.setCells cb.data.toList=cs:=⟨_,rfl⟩
 rw[hcs]at hM hsc hsz HC
 clear hcs hcb
 go_enter Tryz.func140,Tryz.ntmps140
 go_wp2_with (go_at_call 222;refine hM.mono ?_;rintro e w' ⟨rfl,hw⟩;rw[hw])
 clear hM hsc
 refine(tr_any s (w.heap.size+1) _ hs HC.out).mono ?_
 rintro e w' ⟨hte,rfl⟩
 obtain⟨t,rfl,hk⟩:=hte
 have HT:=aB (show TrE s (.returned (.string t)) from⟨t,rfl,hk⟩)
 clear hk
 go_wp2_with fail
 refine(tl_any t (w.heap.size+1) _ HC.out).mono ?_
 rintro e w' ⟨hle,rfl⟩
 obtain⟨u,rfl,hu⟩:=trim_empty HT.out hle
 have HU:=aB hu
 clear hu hle
 go_wp2_with fail
 go_ret
 exact⟨⟨u,rfl,HU.out⟩,((Below.refl _ _).alloc (Nat.le_refl _) _).alloc (by simp) _⟩
end
section
open Go.RowKit
theorem isEmpty_iff (s:ByteArray):s.toList.isEmpty=decide (s.size=0):=by
 rw[Lib.toList_data,Lib.size_eq]
 cases s.data.toList<;>simp
set_option maxRecDepth 100000 in
set_option maxHeartbeats 1000000 in
theorem name_any (s:ByteArray) (w:World) (hs:s.size≤9223372036854775807):Calls Tryz.prog 29 #[.string s] w fun e w'=>e= .returned (.bool (dG s))∧Below w.heap.size w w':=by
 have he:=isEmpty_iff s
 rcases Nat.eq_zero_or_pos s.size with h0|h0
 · have hn:dG s=false:=by simp[dG,h0]
   rw[hn]
   have he1:s.toList.isEmpty=true:=by rw[he];simp[h0]
   clear he hn h0
   go_enter Tryz.func29,Tryz.ntmps29
   go_wp2
   go_ret
   exact⟨rfl,Below.refl _ _⟩
 · have he1:s.toList.isEmpty=false:=by rw[he];exact decide_eq_false (by omega)
   clear he
   by_cases h64:64<s.size
   · have hn:dG s=false:=by
      have h2:¬ s.size≤64:=by omega
      simp[dG,h2]
     rw[hn]
     have r1:(64:Int)<(s.size:Int):=by omega
     clear hn h0 h64
     go_enter Tryz.func29,Tryz.ntmps29
     go_wp2
     go_ret
     exact⟨rfl,Below.refl _ _⟩
   · have r1:¬ (64:Int)<(s.size:Int):=by omega
     have hn:dG s=s.data.toList.all okc:=by
      have h1:s.size≠0:=by omega
      have h2:s.size≤64:=by omega
      simp[dG,h1,h2]
     obtain⟨nb,hnb⟩:∃ nb,dG s=nb:=⟨_,rfl⟩
     rw[hnb]
     have HN:=aB (hn.symm.trans hnb)
     clear hn hnb
     go_enter Tryz.func29,Tryz.ntmps29
     go_wp2_with (go_at_call 140;refine(trim_any s _ h0 hs).mono ?_;rintro e w1 ⟨⟨u,rfl,hu⟩,hb⟩;have HB:=aB hb;have HU:=aB (aA (isEmpty_iff u) hu);clear hb hu;obtain⟨ue,hue⟩:∃ ue,u.toList.isEmpty=ue:=⟨_,rfl⟩;have HUE:=aB hue)
     go_ret
     refine⟨?_,HB.out⟩
     have e2:decide (u.size=0)=nb:=by rw[← HN.out,Bool.eq_iff_iff,decide_eq_true_eq];exact HU.out.2
     have e3:ue=nb:=by rw[← HUE.out,HU.out.1,e2]
     rw[← e3]
     rfl
theorem on_any {w:World} {db:Nat} {b:Bool} (h:w.cell? ⟨db,1,none⟩=some (.bool b)):Calls Tryz.prog 60 #[.pointer (some ⟨db,0,none⟩)] w fun e w'=>e= .returned (.bool b)∧w=w':=by
 go_enter Tryz.func60,Tryz.ntmps60
 go_wp2
 go_ret
 exact⟨rfl,rfl⟩
theorem on_nil (w:World):Calls Tryz.prog 60 #[.pointer none] w fun e w'=>e= .returned (.bool false)∧w=w':=by
 go_enter Tryz.func60,Tryz.ntmps60
 go_wp2
 go_ret
 exact⟨rfl,rfl⟩
def OffAt (w:World) (o:Option Addr):Prop:=o=none∨∃ db,o=some ⟨db,0,none⟩∧w.cell? ⟨db,1,none⟩=some (.bool false)
theorem wanted1_any (s:ByteArray) (w:World) (hs:s.size≤9223372036854775807):Calls Tryz.prog 292 #[.string s] w fun e w'=>e= .returned (.bool (!dG s))∧Below w.heap.size w w':=by
 obtain⟨nb,hnb⟩:∃ nb,dG s=nb:=⟨_,rfl⟩
 have hN:=name_any s
 rw[hnb]at hN ⊢
 go_enter Tryz.func292,Tryz.ntmps292
 go_wp2_with (go_at_call 29;refine(hN _ hs).mono ?_;rintro e w1 ⟨rfl,hb⟩;have HB:=aB hb;clear hb)
 go_ret
 exact⟨rfl,HB.out⟩
def RdT (w:World) (x:Value) (l:List ByteArray):Prop:=∃ a c,x= .slice a l.length c∧(l=[]∨∃ b off,a=some ⟨b,off,none⟩∧b<w.heap.size∧∀ i (hi:i<l.length),w.cell? ⟨b,off+i,none⟩=some (.string l[i]))
theorem RdT.below {w w':World} {x:Value} {l:List ByteArray} (h:RdT w x l) (hb:Below w.heap.size w w'):RdT w' x l:=by
 obtain⟨a,c,hx,h⟩:=h
 refine⟨a,c,hx,h.imp id ?_⟩
 rintro⟨b,off,ha,hlt,hc⟩
 exact⟨b,off,ha,Nat.lt_of_lt_of_le hlt hb.size,fun i hi=>(hb.cell (p:=⟨b,off+i,none⟩) hlt).trans (hc i hi)⟩
def IdxE (l:List ByteArray) (e:Ending):Prop:=∃ n:Int,e= .returned (.int .i64 n)∧((l.all dG=true∧n= -1)∨(l.all dG=false∧0≤n))
set_option maxRecDepth 100000 in
set_option maxHeartbeats 1000000 in
theorem index_any {w:World} {x:Value} {l:List ByteArray} (h:RdT w x l) (hl:l.length≤1000000) (hs:∀ s∈l,s.size≤9223372036854775807):
 Calls Tryz.prog 175 #[x,.func (.func 292) #[] #[]] w fun e w'=>IdxE l e∧Below w.heap.size w w':=by
 obtain⟨a,c,rfl,h1⟩:=h
 obtain⟨n,hn⟩:∃ n,n=l.length:=⟨_,rfl⟩
 rw[← hn]at hl ⊢
 have HN:=aB hn
 have H:=aB (aA h1 hs)
 clear hn h1 hs
 go_enter Tryz.func175,Tryz.ntmps175
 go_wp2
 go_loopw [5,8] (fun _ iv wr=>∃ i:Nat,i≤n∧iv= .int .i64 (i:Int)∧(l.take i).all dG=true∧Below w.heap.size w wr) (fun _ iv _=>n - (intOf iv).toNat)
 case atStart=>exact⟨0,by omega,rfl,by simp,Below.refl _ _⟩
 case round=>
  obtain⟨i,hi,rfl,hall,hbel⟩:=hrel
  have HB:=aB (aA hbel hall)
  clear hall
  by_cases hlt:i<n
  · have hil:i<l.length:=by have:=HN.out;omega
    obtain⟨b1,o1,rfl,l1,k1⟩:=H.out.1.resolve_left (fun e=>by rw[e]at hil;simp at hil)
    have d1:=(hbel.cell (p:=⟨b1,o1+i,none⟩) l1).trans (k1 i hil)
    obtain⟨u,hu⟩:∃ u,l[i]=u:=⟨_,rfl⟩
    rw[hu]at d1
    have hus:=H.out.2 u (hu▸List.getElem_mem hil)
    have hW:=wanted1_any u
    obtain⟨nb,hnb⟩:∃ nb,dG u=nb:=⟨_,rfl⟩
    rw[hnb]at hW
    have htk:l.take (i+1)=l.take i++[u]:=by rw[List.take_succ_eq_append_getElem hil,hu]
    have HX:=aB (aA htk (aA hnb hu))
    have r1:(i:Int)<(n:Int):=by omega
    clear k1 hu hbel htk hnb
    cases nb
    · simp only[Bool.not_false]at hW
      go_wp2_with (go_at_call 292;refine(hW _ hus).mono ?_;rintro e w1 ⟨rfl,hb⟩;have HB1:=aB hb;clear hb)
      go_ret
      refine⟨⟨i,rfl,.inr ⟨?_,by omega⟩⟩,HB.out.1.trans (HB1.out.mono HB.out.1.size)⟩
      rw[Bool.eq_false_iff]
      intro h
      have:=List.all_eq_true.1 h u (HX.out.2.2▸List.getElem_mem hil)
      rw[HX.out.2.1]at this
      cases this
    · simp only[Bool.not_true]at hW
      go_wp2_with (go_at_call 292;refine(hW _ hus).mono ?_;rintro e w1 ⟨rfl,hb⟩;have HB1:=aB hb;clear hb)
      go_roundw
      case rel=>exact⟨i+1,by omega,by go_num,by rw[HX.out.1,List.all_append,HB.out.2];simp[HX.out.2.1],HB.out.1.trans (HB1.out.mono HB.out.1.size)⟩
      case measure=>simp[intOf];omega
  · obtain rfl:i=n:=by omega
    clear hbel
    go_wp2
    go_ret
    refine⟨⟨-1,rfl,.inl ⟨?_,rfl⟩⟩,HB.out.1⟩
    have:=HB.out.2
    rw[HN.out,List.take_length]at this
    exact this
theorem contains_any {w:World} {x:Value} {l:List ByteArray} (h:RdT w x l) (hl:l.length≤1000000) (hs:∀ s∈l,s.size≤9223372036854775807):
 Calls Tryz.prog 291 #[x,.func (.func 292) #[] #[]] w fun e w'=>e= .returned (.bool (!l.all dG))∧Below w.heap.size w w':=by
 have hI:=index_any h hl hs
 obtain⟨b,hb⟩:∃ b,l.all dG=b:=⟨_,rfl⟩
 rw[hb]
 have HB:=aB hb
 clear hb h hl hs
 go_enter Tryz.func291,Tryz.ntmps291
 go_wp2_with fail
 refine hI.mono ?_
 rintro e w1 ⟨⟨n,rfl,hn⟩,hb⟩
 rw[HB.out]at hn
 have H1:=aB hb
 clear hb hI
 rcases hn with⟨rfl,rfl⟩|⟨rfl,hn⟩
 · go_wp2
   go_ret
   exact⟨rfl,H1.out⟩
 · go_wp2
   go_ret
   exact⟨rfl,H1.out⟩
end
end Go.Proofs.YtpfibkgmfapnjaaGreatDoor
