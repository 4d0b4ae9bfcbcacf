/- Disk: Crash. -/
import Derived.Test.YtpfibkgmfapnjaaGreatDoorS17
import Derived.Test.YtpfibkgmfapnjaaGreatDoorS7
import Derived.Laws.BitsAllLaws
set_option linter.unusedSimpArgs false
set_option linter.unusedVariables false
namespace Go.Proofs.YtpfibkgmfapnjaaGreatDoor
section
open Go.RowKit
variable {F G:Nat→Prop} {w w':World} {db mb:Nat} {D D':Dk}
theorem bE.getT {w:World} {B n cap:Nat} {a:Option Addr} {l:List ByteArray} (h:bE eStr w B (.slice a n cap) l) {i:Nat} (hi:i<l.length):∃ g,a=some ⟨g,0,none⟩∧B≤g∧g<w.heap.size∧w.cell? ⟨g,i,none⟩=some (.string l[i]):=by
 have h0:=h
 obtain⟨h1,h2⟩:=h
 rcases h2 with⟨_,h3⟩|⟨g,cap',cur,hv,hg,hh,hn',hc,hcl,htk⟩
 · omega
 · injection hv with e1 e2 e3
   subst e1 e2
   refine⟨g,rfl,hg,(Array.getElem?_eq_some_iff.1 hh).1,?_⟩
   have:=World.ownsRow.cellAt h0 i (by omega)
   rw[this]
   have h4:=eStr.get l i 0 hi (by omega)
   rw[Nat.mul_one,Nat.add_zero]at h4
   rw[h4]
   rfl
set_option maxRecDepth 100000 in
set_option maxHeartbeats 4000000 in
theorem crash_any (h:aF F w db mb D) (hon:D.on=true) {v:Value} {cuts:List Int} (hr:RdC F w v cuts) (hcl:cuts.length≤1000000) (flip:Int):
 Calls Tryz.prog 17 #[.pointer (some ⟨db,0,none⟩),v,.int .i64 flip] w fun e w'=>e= .returned (.tuple #[])∧aF F w' db mb (D.crash cuts flip)∧Tn (aT db mb) w w':=by
 obtain⟨av,cv,rfl,hrr⟩:=hr
 obtain⟨vl,hvl⟩:∃ vl,cuts.length=vl:=⟨_,rfl⟩
 rw[hvl]at hcl ⊢
 have c1:=h.c1
 rw[hon]at c1
 have hall:D.list ByteArray.empty=D.names:=by
  unfold Dk.list
  rw[hon,if_pos rfl,List.filter_eq_self]
  intro s _
  rfl
 have hcr:D.crash cuts flip={D with m:=bV cuts flip D.names 0 D.m,on:=false}:=by unfold Dk.crash;rw[hon,if_pos rfl]
 have hL:=list_any h hon ByteArray.empty
 rw[hall]at hL
 have f1:=h.fz 1
 have H:=aB (aA h (aA hcr (aA hvl hrr)))
 have hlt:=h.ltd
 clear h hon hcr hvl hrr hall
 go_enter Tryz.func17,Tryz.ntmps17
 go_wp2_with (go_at_call 60;refine(on_any c1).mono ?_;rintro e w' ⟨rfl,rfl⟩)
 refine hL.mono ?_
 rintro e w1 ⟨⟨vn,rfl,hown⟩,hb1⟩
 obtain⟨an,cn,rfl,-,-⟩:=aI hown
 obtain⟨n,hn⟩:∃ n,D.names.length=n:=⟨_,rfl⟩
 rw[hn]at hown ⊢
 have k1:=(hb1.cell (p:=⟨db,1,none⟩) hlt).trans c1
 have kf:=(hb1.frozen (p:=⟨db,1,none⟩) hlt).trans f1
 have hnn:n≤20000:=by
  rw[← hn]
  unfold Dk.names
  rw[(sortB_perm _).length_eq,List.length_map]
  exact H.out.1.ok.few
 have H1:=aB (aA hown (aA hb1 hn))
 clear hown hb1 hn hL c1 f1
 go_wp2
 have hd0:aF F (w1.setCell ⟨db,1,none⟩ (.bool false)) db mb {D with on:=false}:=(H.out.1.below H1.out.2.1).set1 false
 have ht0:Tn (aT db mb) w (w1.setCell ⟨db,1,none⟩ (.bool false)):=(Tn.ofBelow H1.out.2.1).trans (Tn.setCell _ _ _ (.inl rfl))
 have ho0:bE eStr (w1.setCell ⟨db,1,none⟩ (.bool false)) w.heap.size (.slice an n cn) D.names:=by
  have h5:=(Tn.setCell (F:=fun q=>q=db) w1 ⟨db,1,none⟩ (.bool false) rfl).row H1.out.1 (fun q hq e=>by have:=(H1.out.1.lt q hq).1;omega)
  exact h5
 go_loopw [7,8,9,10,11,12,23] (fun _ _ _ _ _ _ iv wr=>∃ i:Nat,i≤n∧iv= .int .i64 (i:Int)∧aF F wr db mb {D with m:=bV cuts flip (D.names.take i) 0 D.m,on:=false}∧Tn (aT db mb) w wr∧bE eStr wr w.heap.size (.slice an n cn) D.names) (fun _ _ _ _ _ _ iv _=>n - (intOf iv).toNat)
 case atStart=>exact⟨0,by omega,rfl,hd0,ht0,ho0⟩
 case round=>
  clear hd0 ht0 ho0
  obtain⟨i,hi,rfl,hd,ht,ho⟩:=hrel
  by_cases hlt2:i<n
  · have hin:i<D.names.length:=by have:=H1.out.2.2;omega
    obtain⟨g,rfl,hg1,hg2,hcell⟩:=ho.getT hin
    obtain⟨nm,hnm⟩:∃ nm,D.names[i]=nm:=⟨_,rfl⟩
    rw[hnm]at hcell
    have hmem:nm∈(bV cuts flip (D.names.take i) 0 D.m).map (·.1):=by
     rw[jH,←hnm]
     exact(sortB_perm _).mem_iff.1 (List.getElem_mem hin)
    obtain⟨f,hf⟩:=getL_some hmem
    have hfs:=hd.ok.syn _ (cG hf)
    simp only at hfs
    have hnms:=hd.ok.nam _ (cG hf)
    simp only at hnms
    have k0:=hd.c0
    obtain⟨fd,fs⟩:=f
    simp only at hfs
    have hlk:(Instr.lookup 80 (.map (some mb)) (.string nm) false).run Tryz.prog wr= .ok (.agg #[.string fd,.int .i64 (fs:Int)]) wr:=by
     have h5:=aL.look hd.m keyN und_map (z:= .agg #[.string ByteArray.empty,.int .i64 0]) (Tryz.zeroValue113 _) false nm
     rw[hf]at h5
     exact h5
    obtain⟨cval,hcval,hcc⟩:∃ cval,cutAt cuts i=cval∧((vl=0∧cval=0)∨(0<vl∧∃ b off,av=some ⟨b,off,none⟩∧wr.cell? ⟨b,off+i%vl,none⟩=some (.int .i64 cval))):=by
     refine⟨_,rfl,?_⟩
     rcases Nat.eq_zero_or_pos vl with h0|h0
     · exact .inl ⟨h0,by unfold cutAt;rw[H.out.2.2.1,if_pos h0]⟩
     · obtain⟨b,off,e,hb,hbl,hcs⟩:=H.out.2.2.2.resolve_left (fun e=>by have:=H.out.2.2.1;rw[e]at this;simp at this;omega)
       have hm:i%vl<cuts.length:=by rw[H.out.2.2.1];exact Nat.mod_lt _ h0
       refine .inr ⟨h0,b,off,e,ht.cell ?_ (fun hq=>hb (two_F H.out.1 _ hq))⟩
       have hcv:cutAt cuts i=cuts[i%vl]:=by
        unfold cutAt
        rw[if_neg (by have:=H.out.2.2.1;omega),List.getD_eq_getElem?_getD,H.out.2.2.1,List.getElem?_eq_getElem hm]
        rfl
       rw[hcv]
       exact hcs _ hm
    have HR:=aB (aA hd (aA ht (aA ho (aA hf (aA hfs (aA hnms (aA hnm hcval)))))))
    have q1:fs≤fd.size:=hfs.1
    have q2:fd.size≤1048576:=hfs.2
    have hdb:db<wr.heap.size:=hd.ltd
    clear hd ht ho hf hfs hnms hnm hcval hmem hg1 k1 kf
    have r1:(i:Int)<(n:Int):=by omega
    have hkp:min (max cval 0) ((fd.size:Int) - (fs:Int))=((keep ⟨fd,fs⟩ cval:Nat):Int):=by unfold keep;simp only;omega
    have hkl:=keep_le ⟨fd,fs⟩ cval q1
    simp only at hkl
    obtain⟨kp,hkpe⟩:∃ kp,keep ⟨fd,fs⟩ cval=kp:=⟨_,rfl⟩
    rw[hkpe]at hkp hkl
    have HKP:=aB hkpe
    clear hkpe
    have hxs:(fd.extract 0 (fs+kp)).size=fs+kp:=by rw[ByteArray.size_extract];omega
    have hxl:(fd.extract 0 (fs+kp)).data.toList=fd.data.toList.take (fs+kp):=by
     rw[ByteArray.data_extract,Array.toList_extract]
     simp
    obtain⟨ccap,w4,hb4,hz4,hB4,hconv⟩:=conv_b (fd.extract 0 (fs+kp)) (wr.alloc (.cells #[.string fd,.int .i64 (fs:Int)] 113))
    rw[hxs]at hconv
    rw[hxl]at hB4
    have hz40:(wr.alloc (.cells #[.string fd,.int .i64 (fs:Int)] 113)).heap.size=wr.heap.size+1:=by simp
    rw[hz40]at hB4 hz4 hconv
    have hb40:Below wr.heap.size wr w4:=((Below.refl _ _).alloc (Nat.le_refl _) _).trans (hb4.mono (by simp))
    have hlen4:(fd.data.toList.take (fs+kp)).length=fs+kp:=by rw[← hxl,←Lib.size_eq,hxs]
    have k4:w4.cell? ⟨db,0,none⟩=some (.map (some mb)):=(hb40.cell (p:=⟨db,0,none⟩) hdb).trans k0
    have r6:((fs:Int)+(kp:Int)).toNat=fs+kp:=by omega
    have HB4:=aB (aA hb40 (aA hB4 (aA hlen4 hz4)))
    have HXL:=aB (aA hxl hxs)
    clear hb4 hz4 hB4 hz40 hb40 hlen4 hxl hxs
    have hwl:=hkl
    rcases(by omega:kp=0∨(0<kp∧flip<1)∨(0<kp∧255<flip)∨(0<kp∧1≤flip∧flip≤255))with hw|hw|hw|hw
    · have t1:¬ (0:Int)<(kp:Int):=by omega
      clear hw
      rcases hcc with⟨rfl,rfl⟩|⟨hvp,cb,coff,rfl,hcellc⟩
      · have hkq:min 0 ((fd.size:Int) - (fs:Int))=(kp:Int):=by simpa using hkp
        clear hkp
        go_wp2_with fail
        have kk:=k4
        have hkeep:kept ⟨fd,fs⟩ 0 flip=fd.data.toList.take (fs+kp):=by
         unfold kept
         rw[HKP.out]
         exact if_neg (by omega)
        have hcvv:(Value.agg #[.string ⟨(fd.data.toList.take (fs+kp)).toArray⟩,.int .i64 ((fs+kp:Nat):Int)])=cvF (bJ ⟨fd,fs⟩ 0 flip):=by
         unfold cvF bJ
         simp only[hkeep]
         rw[HB4.out.2.2.1]
        have hlk4:=HB4.out.2.2.1
        have hcok:(bJ ⟨fd,fs⟩ 0 flip).syn≤(bJ ⟨fd,fs⟩ 0 flip).data.size∧(bJ ⟨fd,fs⟩ 0 flip).data.size≤1048576:=by
         have e:(bJ ⟨fd,fs⟩ 0 flip).data.size=(bJ ⟨fd,fs⟩ 0 flip).syn:=by unfold bJ;simp[Lib.size_mk]
         have e2:(bJ ⟨fd,fs⟩ 0 flip).syn=fs+kp:=by unfold bJ;simp only[hkeep];rw[HB4.out.2.2.1]
         omega
        have hH5:jL w4.drew (wr.heap.size+1) (fd.data.toList.take (fs+kp)):=HB4.out.2.1
        have hd5:=HR.out.1.below (HB4.out.1.drew)
        have ht5:Tn (aT db mb) w w4.drew:=HR.out.2.1.trans (Tn.ofBelow HB4.out.1.drew)
        have ho5:bE eStr w4.drew w.heap.size (.slice (some ⟨g,0,none⟩) n cn) D.names:=aD HR.out.2.2.1 HB4.out.1.drew
        have kd1:w4.drew.cell? ⟨db,0,none⟩=some (.map (some mb)):=kk
        have hstr:∀ W:World,jL W (wr.heap.size+1) (fd.data.toList.take (fs+kp))→(convert 114 9 (.slice (some ⟨wr.heap.size+1,0,none⟩) (fs+kp) ccap)).run Tryz.prog W= .ok (.string ⟨(fd.data.toList.take (fs+kp)).toArray⟩) W:=fun W hW=>hW.str _ _ hlk4.symm
        have hst0:=hstr w4.drew hH5
        refine dQ (fun w'=>w'.cell? ⟨db,0,none⟩=some (.map (some mb))∧(convert 114 9 (.slice (some ⟨wr.heap.size+1,0,none⟩) (fs+kp) ccap)).run Tryz.prog w'= .ok (.string ⟨(fd.data.toList.take (fs+kp)).toArray⟩) w') 10 11 ⟨kd1,hst0⟩ (fun hH=>?_)
        refine bU [[0],[1],[2],[3],[4],[5],[6],[7],[8],[9]] hH ?_
        refine tkL rfl (fun K hK=>?_)
        refine dS rfl _ _ _ rfl keyN und_map rfl hd5.m nm rfl (bJ ⟨fd,fs⟩ 0 flip) hcvv ?_
        intro w6 hm6 ht6 hz6
        refine hK.out _ _ (tkD ?_)
        clear hK K hH
        have hfin:=hd5.setM ht6 hm6 (hd5.ok.set HR.out.2.2.2.2.2.1 hcok (Nat.le_trans (Nat.le_of_eq (cA.2 (by rw[HR.out.2.2.2.1];rfl))) hd5.ok.few))
        have hown6:bE eStr w6 w.heap.size (.slice (some ⟨g,0,none⟩) n cn) D.names:=ht6.row ho5 (fun q hq e=>by have:=(H.out.1.m.lt);have h1:g=q:=Option.some.inj hq;subst h1;subst e;have:=(ho5.lt g rfl).1;omega)
        have htt:Tn (aT db mb) w w6:=ht5.trans (ht6.mono (fun q hq=> .inr hq))
        have HF:=aB (aA hfin (aA htt hown6))
        clear hfin htt hown6 hm6 ht6 hz6 ho5 ht5 hd5 hst0 hstr kd1 kk hH5
        go_wp2_with fail
        go_roundw
        case rel=>
         refine⟨i+1,by omega,by go_num,?_,HF.out.2.1,HF.out.2.2⟩
         have e7:bV cuts flip (D.names.take (i+1)) 0 D.m=aG (bV cuts flip (D.names.take i) 0 D.m) nm (bJ ⟨fd,fs⟩ 0 flip):=by
          rw[List.take_succ_eq_append_getElem hin,eV,HR.out.2.2.2.2.2.2.1,HR.out.2.2.2.1]
          simp only[Nat.zero_add]
          rw[List.length_take_of_le (Nat.le_of_lt hin),HR.out.2.2.2.2.2.2.2]
         rw[e7]
         exact HF.out.1
        case measure=>simp[intOf];omega
      · have r2:(0:Int)<(vl:Int):=by omega
        have hcb:cb<wr.heap.size:=World.block_lt_of_cell? _ _ hcellc
        have r3:((i%vl:Nat):Int)=(i:Int)%(vl:Int):=by omega
        have r4:(i:Int)%(vl:Int)<(vl:Int):=Int.emod_lt_of_pos _ r2
        have r5:0≤(i:Int)%(vl:Int):=Int.emod_nonneg _ (by omega)
        go_wp2_with fail
        have kk:=k4
        have hkeep:kept ⟨fd,fs⟩ cval flip=fd.data.toList.take (fs+kp):=by
         unfold kept
         rw[HKP.out]
         exact if_neg (by omega)
        have hcvv:(Value.agg #[.string ⟨(fd.data.toList.take (fs+kp)).toArray⟩,.int .i64 ((fs+kp:Nat):Int)])=cvF (bJ ⟨fd,fs⟩ cval flip):=by
         unfold cvF bJ
         simp only[hkeep]
         rw[HB4.out.2.2.1]
        have hlk4:=HB4.out.2.2.1
        have hcok:(bJ ⟨fd,fs⟩ cval flip).syn≤(bJ ⟨fd,fs⟩ cval flip).data.size∧(bJ ⟨fd,fs⟩ cval flip).data.size≤1048576:=by
         have e:(bJ ⟨fd,fs⟩ cval flip).data.size=(bJ ⟨fd,fs⟩ cval flip).syn:=by unfold bJ;simp[Lib.size_mk]
         have e2:(bJ ⟨fd,fs⟩ cval flip).syn=fs+kp:=by unfold bJ;simp only[hkeep];rw[HB4.out.2.2.1]
         omega
        have hH5:jL w4.drew (wr.heap.size+1) (fd.data.toList.take (fs+kp)):=HB4.out.2.1
        have hd5:=HR.out.1.below (HB4.out.1.drew)
        have ht5:Tn (aT db mb) w w4.drew:=HR.out.2.1.trans (Tn.ofBelow HB4.out.1.drew)
        have ho5:bE eStr w4.drew w.heap.size (.slice (some ⟨g,0,none⟩) n cn) D.names:=aD HR.out.2.2.1 HB4.out.1.drew
        have kd1:w4.drew.cell? ⟨db,0,none⟩=some (.map (some mb)):=kk
        have hstr:∀ W:World,jL W (wr.heap.size+1) (fd.data.toList.take (fs+kp))→(convert 114 9 (.slice (some ⟨wr.heap.size+1,0,none⟩) (fs+kp) ccap)).run Tryz.prog W= .ok (.string ⟨(fd.data.toList.take (fs+kp)).toArray⟩) W:=fun W hW=>hW.str _ _ hlk4.symm
        have hst0:=hstr w4.drew hH5
        refine dQ (fun w'=>w'.cell? ⟨db,0,none⟩=some (.map (some mb))∧(convert 114 9 (.slice (some ⟨wr.heap.size+1,0,none⟩) (fs+kp) ccap)).run Tryz.prog w'= .ok (.string ⟨(fd.data.toList.take (fs+kp)).toArray⟩) w') 10 11 ⟨kd1,hst0⟩ (fun hH=>?_)
        refine bU [[0],[1],[2],[3],[4],[5],[6],[7],[8],[9]] hH ?_
        refine tkL rfl (fun K hK=>?_)
        refine dS rfl _ _ _ rfl keyN und_map rfl hd5.m nm rfl (bJ ⟨fd,fs⟩ cval flip) hcvv ?_
        intro w6 hm6 ht6 hz6
        refine hK.out _ _ (tkD ?_)
        clear hK K hH
        have hfin:=hd5.setM ht6 hm6 (hd5.ok.set HR.out.2.2.2.2.2.1 hcok (Nat.le_trans (Nat.le_of_eq (cA.2 (by rw[HR.out.2.2.2.1];rfl))) hd5.ok.few))
        have hown6:bE eStr w6 w.heap.size (.slice (some ⟨g,0,none⟩) n cn) D.names:=ht6.row ho5 (fun q hq e=>by have:=(H.out.1.m.lt);have h1:g=q:=Option.some.inj hq;subst h1;subst e;have:=(ho5.lt g rfl).1;omega)
        have htt:Tn (aT db mb) w w6:=ht5.trans (ht6.mono (fun q hq=> .inr hq))
        have HF:=aB (aA hfin (aA htt hown6))
        clear hfin htt hown6 hm6 ht6 hz6 ho5 ht5 hd5 hst0 hstr kd1 kk hH5
        go_wp2_with fail
        go_roundw
        case rel=>
         refine⟨i+1,by omega,by go_num,?_,HF.out.2.1,HF.out.2.2⟩
         have e7:bV cuts flip (D.names.take (i+1)) 0 D.m=aG (bV cuts flip (D.names.take i) 0 D.m) nm (bJ ⟨fd,fs⟩ cval flip):=by
          rw[List.take_succ_eq_append_getElem hin,eV,HR.out.2.2.2.2.2.2.1,HR.out.2.2.2.1]
          simp only[Nat.zero_add]
          rw[List.length_take_of_le (Nat.le_of_lt hin),HR.out.2.2.2.2.2.2.2]
         rw[e7]
         exact HF.out.1
        case measure=>simp[intOf];omega
    · have t1:(0:Int)<(kp:Int):=by omega
      have t2:¬ (1:Int)≤flip:=by omega
      clear hw
      rcases hcc with⟨rfl,rfl⟩|⟨hvp,cb,coff,rfl,hcellc⟩
      · exfalso;omega
      · have r2:(0:Int)<(vl:Int):=by omega
        have hcb:cb<wr.heap.size:=World.block_lt_of_cell? _ _ hcellc
        have r3:((i%vl:Nat):Int)=(i:Int)%(vl:Int):=by omega
        have r4:(i:Int)%(vl:Int)<(vl:Int):=Int.emod_lt_of_pos _ r2
        have r5:0≤(i:Int)%(vl:Int):=Int.emod_nonneg _ (by omega)
        go_wp2_with fail
        have kk:=k4
        have hkeep:kept ⟨fd,fs⟩ cval flip=fd.data.toList.take (fs+kp):=by
         unfold kept
         rw[HKP.out]
         exact if_neg (by omega)
        have hcvv:(Value.agg #[.string ⟨(fd.data.toList.take (fs+kp)).toArray⟩,.int .i64 ((fs+kp:Nat):Int)])=cvF (bJ ⟨fd,fs⟩ cval flip):=by
         unfold cvF bJ
         simp only[hkeep]
         rw[HB4.out.2.2.1]
        have hlk4:=HB4.out.2.2.1
        have hcok:(bJ ⟨fd,fs⟩ cval flip).syn≤(bJ ⟨fd,fs⟩ cval flip).data.size∧(bJ ⟨fd,fs⟩ cval flip).data.size≤1048576:=by
         have e:(bJ ⟨fd,fs⟩ cval flip).data.size=(bJ ⟨fd,fs⟩ cval flip).syn:=by unfold bJ;simp[Lib.size_mk]
         have e2:(bJ ⟨fd,fs⟩ cval flip).syn=fs+kp:=by unfold bJ;simp only[hkeep];rw[HB4.out.2.2.1]
         omega
        have hH5:jL w4.drew (wr.heap.size+1) (fd.data.toList.take (fs+kp)):=HB4.out.2.1
        have hd5:=HR.out.1.below (HB4.out.1.drew)
        have ht5:Tn (aT db mb) w w4.drew:=HR.out.2.1.trans (Tn.ofBelow HB4.out.1.drew)
        have ho5:bE eStr w4.drew w.heap.size (.slice (some ⟨g,0,none⟩) n cn) D.names:=aD HR.out.2.2.1 HB4.out.1.drew
        have kd1:w4.drew.cell? ⟨db,0,none⟩=some (.map (some mb)):=kk
        have hstr:∀ W:World,jL W (wr.heap.size+1) (fd.data.toList.take (fs+kp))→(convert 114 9 (.slice (some ⟨wr.heap.size+1,0,none⟩) (fs+kp) ccap)).run Tryz.prog W= .ok (.string ⟨(fd.data.toList.take (fs+kp)).toArray⟩) W:=fun W hW=>hW.str _ _ hlk4.symm
        have hst0:=hstr w4.drew hH5
        refine dQ (fun w'=>w'.cell? ⟨db,0,none⟩=some (.map (some mb))∧(convert 114 9 (.slice (some ⟨wr.heap.size+1,0,none⟩) (fs+kp) ccap)).run Tryz.prog w'= .ok (.string ⟨(fd.data.toList.take (fs+kp)).toArray⟩) w') 10 11 ⟨kd1,hst0⟩ (fun hH=>?_)
        refine bU [[0],[1],[2],[3],[4],[5],[6],[7],[8],[9]] hH ?_
        refine tkL rfl (fun K hK=>?_)
        refine dS rfl _ _ _ rfl keyN und_map rfl hd5.m nm rfl (bJ ⟨fd,fs⟩ cval flip) hcvv ?_
        intro w6 hm6 ht6 hz6
        refine hK.out _ _ (tkD ?_)
        clear hK K hH
        have hfin:=hd5.setM ht6 hm6 (hd5.ok.set HR.out.2.2.2.2.2.1 hcok (Nat.le_trans (Nat.le_of_eq (cA.2 (by rw[HR.out.2.2.2.1];rfl))) hd5.ok.few))
        have hown6:bE eStr w6 w.heap.size (.slice (some ⟨g,0,none⟩) n cn) D.names:=ht6.row ho5 (fun q hq e=>by have:=(H.out.1.m.lt);have h1:g=q:=Option.some.inj hq;subst h1;subst e;have:=(ho5.lt g rfl).1;omega)
        have htt:Tn (aT db mb) w w6:=ht5.trans (ht6.mono (fun q hq=> .inr hq))
        have HF:=aB (aA hfin (aA htt hown6))
        clear hfin htt hown6 hm6 ht6 hz6 ho5 ht5 hd5 hst0 hstr kd1 kk hH5
        go_wp2_with fail
        go_roundw
        case rel=>
         refine⟨i+1,by omega,by go_num,?_,HF.out.2.1,HF.out.2.2⟩
         have e7:bV cuts flip (D.names.take (i+1)) 0 D.m=aG (bV cuts flip (D.names.take i) 0 D.m) nm (bJ ⟨fd,fs⟩ cval flip):=by
          rw[List.take_succ_eq_append_getElem hin,eV,HR.out.2.2.2.2.2.2.1,HR.out.2.2.2.1]
          simp only[Nat.zero_add]
          rw[List.length_take_of_le (Nat.le_of_lt hin),HR.out.2.2.2.2.2.2.2]
         rw[e7]
         exact HF.out.1
        case measure=>simp[intOf];omega
    · have t1:(0:Int)<(kp:Int):=by omega
      have t2:(1:Int)≤flip:=by omega
      have t3:¬ flip≤(255:Int):=by omega
      clear hw
      rcases hcc with⟨rfl,rfl⟩|⟨hvp,cb,coff,rfl,hcellc⟩
      · exfalso;omega
      · have r2:(0:Int)<(vl:Int):=by omega
        have hcb:cb<wr.heap.size:=World.block_lt_of_cell? _ _ hcellc
        have r3:((i%vl:Nat):Int)=(i:Int)%(vl:Int):=by omega
        have r4:(i:Int)%(vl:Int)<(vl:Int):=Int.emod_lt_of_pos _ r2
        have r5:0≤(i:Int)%(vl:Int):=Int.emod_nonneg _ (by omega)
        go_wp2_with fail
        have kk:=k4
        have hkeep:kept ⟨fd,fs⟩ cval flip=fd.data.toList.take (fs+kp):=by
         unfold kept
         rw[HKP.out]
         exact if_neg (by omega)
        have hcvv:(Value.agg #[.string ⟨(fd.data.toList.take (fs+kp)).toArray⟩,.int .i64 ((fs+kp:Nat):Int)])=cvF (bJ ⟨fd,fs⟩ cval flip):=by
         unfold cvF bJ
         simp only[hkeep]
         rw[HB4.out.2.2.1]
        have hlk4:=HB4.out.2.2.1
        have hcok:(bJ ⟨fd,fs⟩ cval flip).syn≤(bJ ⟨fd,fs⟩ cval flip).data.size∧(bJ ⟨fd,fs⟩ cval flip).data.size≤1048576:=by
         have e:(bJ ⟨fd,fs⟩ cval flip).data.size=(bJ ⟨fd,fs⟩ cval flip).syn:=by unfold bJ;simp[Lib.size_mk]
         have e2:(bJ ⟨fd,fs⟩ cval flip).syn=fs+kp:=by unfold bJ;simp only[hkeep];rw[HB4.out.2.2.1]
         omega
        have hH5:jL w4.drew (wr.heap.size+1) (fd.data.toList.take (fs+kp)):=HB4.out.2.1
        have hd5:=HR.out.1.below (HB4.out.1.drew)
        have ht5:Tn (aT db mb) w w4.drew:=HR.out.2.1.trans (Tn.ofBelow HB4.out.1.drew)
        have ho5:bE eStr w4.drew w.heap.size (.slice (some ⟨g,0,none⟩) n cn) D.names:=aD HR.out.2.2.1 HB4.out.1.drew
        have kd1:w4.drew.cell? ⟨db,0,none⟩=some (.map (some mb)):=kk
        have hstr:∀ W:World,jL W (wr.heap.size+1) (fd.data.toList.take (fs+kp))→(convert 114 9 (.slice (some ⟨wr.heap.size+1,0,none⟩) (fs+kp) ccap)).run Tryz.prog W= .ok (.string ⟨(fd.data.toList.take (fs+kp)).toArray⟩) W:=fun W hW=>hW.str _ _ hlk4.symm
        have hst0:=hstr w4.drew hH5
        refine dQ (fun w'=>w'.cell? ⟨db,0,none⟩=some (.map (some mb))∧(convert 114 9 (.slice (some ⟨wr.heap.size+1,0,none⟩) (fs+kp) ccap)).run Tryz.prog w'= .ok (.string ⟨(fd.data.toList.take (fs+kp)).toArray⟩) w') 10 11 ⟨kd1,hst0⟩ (fun hH=>?_)
        refine bU [[0],[1],[2],[3],[4],[5],[6],[7],[8],[9]] hH ?_
        refine tkL rfl (fun K hK=>?_)
        refine dS rfl _ _ _ rfl keyN und_map rfl hd5.m nm rfl (bJ ⟨fd,fs⟩ cval flip) hcvv ?_
        intro w6 hm6 ht6 hz6
        refine hK.out _ _ (tkD ?_)
        clear hK K hH
        have hfin:=hd5.setM ht6 hm6 (hd5.ok.set HR.out.2.2.2.2.2.1 hcok (Nat.le_trans (Nat.le_of_eq (cA.2 (by rw[HR.out.2.2.2.1];rfl))) hd5.ok.few))
        have hown6:bE eStr w6 w.heap.size (.slice (some ⟨g,0,none⟩) n cn) D.names:=ht6.row ho5 (fun q hq e=>by have:=(H.out.1.m.lt);have h1:g=q:=Option.some.inj hq;subst h1;subst e;have:=(ho5.lt g rfl).1;omega)
        have htt:Tn (aT db mb) w w6:=ht5.trans (ht6.mono (fun q hq=> .inr hq))
        have HF:=aB (aA hfin (aA htt hown6))
        clear hfin htt hown6 hm6 ht6 hz6 ho5 ht5 hd5 hst0 hstr kd1 kk hH5
        go_wp2_with fail
        go_roundw
        case rel=>
         refine⟨i+1,by omega,by go_num,?_,HF.out.2.1,HF.out.2.2⟩
         have e7:bV cuts flip (D.names.take (i+1)) 0 D.m=aG (bV cuts flip (D.names.take i) 0 D.m) nm (bJ ⟨fd,fs⟩ cval flip):=by
          rw[List.take_succ_eq_append_getElem hin,eV,HR.out.2.2.2.2.2.2.1,HR.out.2.2.2.1]
          simp only[Nat.zero_add]
          rw[List.length_take_of_le (Nat.le_of_lt hin),HR.out.2.2.2.2.2.2.2]
         rw[e7]
         exact HF.out.1
        case measure=>simp[intOf];omega
    · have t1:(0:Int)<(kp:Int):=by omega
      have t2:(1:Int)≤flip:=by omega
      have t3:flip≤(255:Int):=by omega
      clear hw
      have hj0:fs+kp - 1<(fd.data.toList.take (fs+kp)).length:=by rw[HB4.out.2.2.1];omega
      obtain⟨lb,hlb⟩:∃ lb,(fd.data.toList.take (fs+kp))[fs+kp - 1]?=some lb:=⟨_,List.getElem?_eq_getElem hj0⟩
      have u1:=(HB4.out.2.1 (fs+kp - 1) hj0).1
      have u2:=(HB4.out.2.1 (fs+kp - 1) hj0).2
      have e0:=hlb
      rw[List.getElem?_eq_getElem hj0]at e0
      rw[Option.some.inj e0]at u1
      have HLB:=aB hlb
      clear hlb e0 hj0
      rcases hcc with⟨rfl,rfl⟩|⟨hvp,cb,coff,rfl,hcellc⟩
      · exfalso;omega
      · have r2:(0:Int)<(vl:Int):=by omega
        have hcb:cb<wr.heap.size:=World.block_lt_of_cell? _ _ hcellc
        have r3:((i%vl:Nat):Int)=(i:Int)%(vl:Int):=by omega
        have r4:(i:Int)%(vl:Int)<(vl:Int):=Int.emod_lt_of_pos _ r2
        have r5:0≤(i:Int)%(vl:Int):=Int.emod_nonneg _ (by omega)
        go_wp2_with fail
        have hxr:bits BinOp.xor IntKind.u8 (lb.toNat:Int) flip=((lb ^^^ UInt8.ofNat flip.toNat).toNat:Int):=by
         rw[u8_xor _ _ (by omega) (by have:=lb.toNat_lt;omega) (by omega) (by omega),UInt8.toNat_xor,UInt8.toNat_ofNat',Int.toNat_natCast,Nat.mod_eq_of_lt (show flip.toNat<2 ^ 8 by omega)]
        rw[hxr]
        clear hxr
        obtain⟨w5,hw5⟩:∃ w5,w4.setCell ⟨wr.heap.size+1,fs+kp - 1,none⟩ (.int .u8 ((lb ^^^ UInt8.ofNat flip.toNat).toNat:Int))=w5:=⟨_,rfl⟩
        rw[hw5]
        have hspo:iN (fd.data.toList.take (fs+kp)) flip=(fd.data.toList.take (fs+kp)).set (fs+kp - 1) (lb ^^^ UInt8.ofNat flip.toNat):=by
         unfold iN
         rw[HB4.out.2.2.1,List.getD_eq_getElem?_getD,HLB.out]
         rfl
        have hH5:jL w5.drew (wr.heap.size+1) (iN (fd.data.toList.take (fs+kp)) flip):=by
         rw[hspo,←hw5]
         exact HB4.out.2.1.set _ _
        have hb5:Below wr.heap.size wr w5.drew:=by rw[← hw5];exact(HB4.out.1.setCell (by simp) _).drew
        have kk:w5.cell? ⟨db,0,none⟩=some (.map (some mb)):=(hb5.cell (p:=⟨db,0,none⟩) hdb).trans k0
        have hlk4:(iN (fd.data.toList.take (fs+kp)) flip).length=fs+kp:=by rw[spoil_len];exact HB4.out.2.2.1
        have hkeep:kept ⟨fd,fs⟩ cval flip=iN (fd.data.toList.take (fs+kp)) flip:=by
         unfold kept
         rw[HKP.out]
         exact if_pos ⟨by omega,by omega,by omega⟩
        have hcvv:(Value.agg #[.string ⟨(iN (fd.data.toList.take (fs+kp)) flip).toArray⟩,.int .i64 ((fs+kp:Nat):Int)])=cvF (bJ ⟨fd,fs⟩ cval flip):=by
         unfold cvF bJ
         simp only[hkeep]
         rw[hlk4]
        have hcok:(bJ ⟨fd,fs⟩ cval flip).syn≤(bJ ⟨fd,fs⟩ cval flip).data.size∧(bJ ⟨fd,fs⟩ cval flip).data.size≤1048576:=by
         have e:(bJ ⟨fd,fs⟩ cval flip).data.size=(bJ ⟨fd,fs⟩ cval flip).syn:=by unfold bJ;simp[Lib.size_mk]
         have e2:(bJ ⟨fd,fs⟩ cval flip).syn=fs+kp:=by unfold bJ;simp only[hkeep];exact hlk4
         omega
        have hd5:=HR.out.1.below hb5
        have ht5:Tn (aT db mb) w w5.drew:=HR.out.2.1.trans (Tn.ofBelow hb5)
        have ho5:bE eStr w5.drew w.heap.size (.slice (some ⟨g,0,none⟩) n cn) D.names:=aD HR.out.2.2.1 hb5
        clear hw5 hspo
        have kd1:w5.drew.cell? ⟨db,0,none⟩=some (.map (some mb)):=kk
        have hstr:∀ W:World,jL W (wr.heap.size+1) (iN (fd.data.toList.take (fs+kp)) flip)→(convert 114 9 (.slice (some ⟨wr.heap.size+1,0,none⟩) (fs+kp) ccap)).run Tryz.prog W= .ok (.string ⟨(iN (fd.data.toList.take (fs+kp)) flip).toArray⟩) W:=fun W hW=>hW.str _ _ hlk4.symm
        have hst0:=hstr w5.drew hH5
        refine dQ (fun w'=>w'.cell? ⟨db,0,none⟩=some (.map (some mb))∧(convert 114 9 (.slice (some ⟨wr.heap.size+1,0,none⟩) (fs+kp) ccap)).run Tryz.prog w'= .ok (.string ⟨(iN (fd.data.toList.take (fs+kp)) flip).toArray⟩) w') 10 11 ⟨kd1,hst0⟩ (fun hH=>?_)
        refine bU [[0],[1],[2],[3],[4],[5],[6],[7],[8],[9]] hH ?_
        refine tkL rfl (fun K hK=>?_)
        refine dS rfl _ _ _ rfl keyN und_map rfl hd5.m nm rfl (bJ ⟨fd,fs⟩ cval flip) hcvv ?_
        intro w6 hm6 ht6 hz6
        refine hK.out _ _ (tkD ?_)
        clear hK K hH
        have hfin:=hd5.setM ht6 hm6 (hd5.ok.set HR.out.2.2.2.2.2.1 hcok (Nat.le_trans (Nat.le_of_eq (cA.2 (by rw[HR.out.2.2.2.1];rfl))) hd5.ok.few))
        have hown6:bE eStr w6 w.heap.size (.slice (some ⟨g,0,none⟩) n cn) D.names:=ht6.row ho5 (fun q hq e=>by have:=(H.out.1.m.lt);have h1:g=q:=Option.some.inj hq;subst h1;subst e;have:=(ho5.lt g rfl).1;omega)
        have htt:Tn (aT db mb) w w6:=ht5.trans (ht6.mono (fun q hq=> .inr hq))
        have HF:=aB (aA hfin (aA htt hown6))
        clear hfin htt hown6 hm6 ht6 hz6 ho5 ht5 hd5 hst0 hstr kd1 kk hH5
        go_wp2_with fail
        go_roundw
        case rel=>
         refine⟨i+1,by omega,by go_num,?_,HF.out.2.1,HF.out.2.2⟩
         have e7:bV cuts flip (D.names.take (i+1)) 0 D.m=aG (bV cuts flip (D.names.take i) 0 D.m) nm (bJ ⟨fd,fs⟩ cval flip):=by
          rw[List.take_succ_eq_append_getElem hin,eV,HR.out.2.2.2.2.2.2.1,HR.out.2.2.2.1]
          simp only[Nat.zero_add]
          rw[List.length_take_of_le (Nat.le_of_lt hin),HR.out.2.2.2.2.2.2.2]
         rw[e7]
         exact HF.out.1
        case measure=>simp[intOf];omega
  · obtain rfl:i=n:=by omega
    have HE:=aB (aA hd (aA ht ho))
    clear hd ht ho
    go_wp2
    go_end0
    refine⟨rfl,?_,HE.out.2.1⟩
    rw[H.out.2.1]
    have h8:=HE.out.1
    rw[List.take_of_length_le (by rw[H1.out.2.2];omega)]at h8
    exact h8
end
section
open Go.RowKit
variable {F G:Nat→Prop} {w w':World} {db mb:Nat} {D D':Dk}
set_option maxRecDepth 100000 in
set_option maxHeartbeats 2000000 in
theorem act_burn (h:aF F w db mb D) (hon:D.on=true) {z:Fz} (hz:D.fuse=some z) (hz0:z.n=0) (fv:Value):
 Calls Tryz.prog 244 #[.pointer (some ⟨db,0,none⟩),fv] w fun e w'=>e= .returned (.int .i64 20)∧aF F w' db mb (Dk.crash {D with fuse:=none} z.cuts z.flip)∧Tn (aT db mb) w w':=by
 obtain⟨p,hp,hzp⟩:=h.c3
 rw[hz]at hzp
 obtain⟨fb,v,rfl,hfF,hfl,q0,q1,q2,hrd⟩:=hzp
 have hcl:=(h.ok.fuse z hz).2
 have hd1:aF F (w.setCell ⟨db,3,none⟩ (.pointer none)) db mb {D with fuse:=none}:=h.set3 (z:=none) (p:= .pointer none) rfl (fun y hy=>by cases hy)
 have ht1:Tn (aT db mb) w (w.setCell ⟨db,3,none⟩ (.pointer none)):=Tn.setCell _ _ _ (.inl rfl)
 have hne:db≠fb:=fun e=>hfF (e▸h.fd)
 have hrd1:=hrd.tn ht1 (fun q _ hq=>two_F h q hq)
 obtain⟨av,cv,rfl,hrr⟩:=hrd
 obtain⟨vl,hvl⟩:∃ vl,z.cuts.length=vl:=⟨_,rfl⟩
 obtain⟨fl,hfl2⟩:∃ fl,z.flip=fl:=⟨_,rfl⟩
 rw[hvl]at q1 hrd1
 rw[hfl2]at q2 ⊢
 rw[hz0]at q0
 have k1:(w.setCell ⟨db,3,none⟩ (.pointer none)).cell? ⟨fb,1,none⟩=some (.slice av vl cv):=ht1.cell q1 (fun hq=>hfF (two_F h _ hq))
 have k2:(w.setCell ⟨db,3,none⟩ (.pointer none)).cell? ⟨fb,2,none⟩=some (.int .i64 fl):=ht1.cell q2 (fun hq=>hfF (two_F h _ hq))
 have fd3:=h.fz 3
 have H:=aB (aA hd1 (aA ht1 (aA hrd1 hcl)))
 clear h hz hz0 hfF hrr hvl hfl2 hd1 ht1 hrd1 hcl
 go_enter Tryz.func244,Tryz.ntmps244
 go_wp2_with fail
 obtain⟨w1,hw1⟩:∃ w1,w.setCell ⟨db,3,none⟩ (.pointer none)=w1:=⟨_,rfl⟩
 rw[hw1]at H k1 k2 ⊢
 clear hw1
 have kd1:w1.drew.cell? ⟨fb,1,none⟩=some (.slice av vl cv):=k1
 have kd2:w1.drew.cell? ⟨fb,2,none⟩=some (.int .i64 fl):=k2
 refine dQ (fun w'=>w'.cell? ⟨fb,1,none⟩=some (.slice av vl cv)∧w'.cell? ⟨fb,2,none⟩=some (.int .i64 fl)) 9 10 ⟨kd1,kd2⟩ (fun hH=>?_)
 refine bU [[0],[1,2,3,4],[2,3,4],[3,4],[4],[5,6,7,8],[6,7,8],[7,8],[8]] hH ?_
 refine tkL rfl (fun K hK=>?_)
 go_simp
 go_at_call 17
 have hb1:Below w1.heap.size w1 w1.drew:=(Below.refl _ _).drew
 refine(crash_any (H.out.1.below hb1) hon (H.out.2.2.1.tn (Tn.ofBelow (F:=fun _=>False) hb1) (fun _ _ e=>e.elim)) H.out.2.2.2 fl).mono ?_
 rintro e w2 ⟨rfl,hd2,ht2⟩
 refine hK.out _ _ (tkD ?_)
 clear hK K hH
 have HF:=aB (aA hd2 (H.out.2.1.trans ((Tn.ofBelow hb1).trans ht2)))
 clear hd2 ht2 hb1 kd1 kd2 k1 k2
 go_wp2
 go_ret
 exact⟨rfl,HF.out.1,HF.out.2⟩
theorem iK (h:aF F w db mb D) (hon:D.on=true) (ha:D.acts<1000000) {fk:FuncId} {caps:Array Value} {f:Fm→Fm} (eg:∀ args w,(callFunc fk args).run Tryz.prog w= .ok (.enter fk args) w) (hdo:mC F G fk caps w db mb D f):
 Calls Tryz.prog 244 #[.pointer (some ⟨db,0,none⟩),.func (.func fk) #[] caps] w fun e w'=>e= .returned (.int .i64 (D.act f).1)∧aF F w' db mb (D.act f).2∧Tn (fun q=>aT db mb q∨G q) w w':=by
 cases hz:D.fuse with
 |none=>
  have h0:∀ z,D.fuse=some z→z.n≠0:=fun z e=>by rw[hz]at e;cases e
  have:=act_live h h0 ha eg hdo
  rw[D.act_live f h0]at this ⊢
  exact this
 |some z=>
  rcases Nat.eq_zero_or_pos z.n with hn|hn
  · have hact:D.act f=(20,Dk.crash {D with fuse:=none} z.cuts z.flip):=by
     obtain⟨n,c,fl⟩:=z
     simp only at hn
     subst hn
     unfold Dk.act
     rw[hz]
    rw[hact]
    refine(act_burn h hon hz hn _).mono ?_
    rintro e w' ⟨rfl,h1,h2⟩
    exact⟨rfl,h1,h2.mono (fun q hq=> .inl hq)⟩
  · have h0:∀ y,D.fuse=some y→y.n≠0:=fun y e=>by rw[hz]at e;cases e;omega
    have:=act_live h h0 ha eg hdo
    rw[D.act_live f h0]at this ⊢
    exact this
end
end Go.Proofs.YtpfibkgmfapnjaaGreatDoor
