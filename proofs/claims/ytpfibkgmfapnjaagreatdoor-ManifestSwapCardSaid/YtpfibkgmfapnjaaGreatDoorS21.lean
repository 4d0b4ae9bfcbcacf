/- Disk: Append. -/
import Derived.Test.YtpfibkgmfapnjaaGreatDoorS20
import Derived.Test.YtpfibkgmfapnjaaGreatDoorGaS
import Derived.Test.YtpfibkgmfapnjaaGreatDoorShS
import Derived.WalkSpells
set_option linter.unusedSimpArgs false
set_option linter.unusedVariables false
namespace Go.Proofs.YtpfibkgmfapnjaaGreatDoor
section
open Go.RowKit
variable {F G:Nat→Prop} {w w':World} {db mb:Nat} {D D':Dk}
set_option maxRecDepth 100000 in
set_option maxHeartbeats 4000000 in
theorem kX (h:aF F w db mb D) (hon:D.on=true) (ha:D.acts<1000000) (s:ByteArray) (data:ByteArray) (hs:s.size≤140737488351232) (hdata:data.size≤140737488351232):
 Calls Tryz.prog 163 #[.pointer (some ⟨db,0,none⟩),.string s,.string data] w fun e w'=>e= .returned (.int .i64 (D.app s data).1)∧aF F w' db mb (D.app s data).2∧Tn (aT db mb) w w':=by
 have hask:D.asked [s]=cK true [s]:=by unfold Dk.asked cK;rw[hon]
 have c1:=h.c1
 rw[hon]at c1
 have hlt:=h.ltd
 have hmf:∀ (fn:Fn) (first cap:Array Value) (w:World),(Instr.makeFunc fn first cap).run Tryz.prog w= .ok (.func fn first cap) w:=fun _ _ _ _=>rfl
 have H:=aB (aA h (aA hon hask))
 clear h hon hask
 obtain⟨W1,hW1⟩:∃ W1,((w.alloc (.cells #[.pointer (some ⟨db,0,none⟩)] 24)).alloc (.cells #[.string s] 9)).alloc (.cells #[.string data] 9)=W1:=⟨_,rfl⟩
 have b1:Below w.heap.size w W1:=by rw[← hW1];exact(((Below.refl _ _).alloc (Nat.le_refl _) _).alloc (by simp) _).alloc (by simp;omega) _
 have z1:W1.heap.size=w.heap.size+3:=by rw[← hW1];simp
 have dD:W1.cell? ⟨w.heap.size,0,none⟩=some (.pointer (some ⟨db,0,none⟩)):=by rw[← hW1];simp[go_sem]
 have dN:W1.cell? ⟨w.heap.size+1,0,none⟩=some (.string s):=by rw[← hW1];simp[go_sem]
 have dA:W1.cell? ⟨w.heap.size+2,0,none⟩=some (.string data):=by rw[← hW1];simp[go_sem]
 have on1:OnAt W1 (some ⟨db,0,none⟩) true:= .inr ⟨db,rfl,(b1.cell (p:=⟨db,1,none⟩) hlt).trans c1⟩
 have hr1:RdT (W1.alloc (.cells #[.string s] 9)) (.slice (some ⟨W1.heap.size,0,none⟩) 1 1) [s]:=lI (by simp[go_sem]) 1
 have hA:=fN (on1.below ((Below.refl _ _).alloc (Nat.le_refl _) _)) hr1 (by simp) (fun x hx=>by rw[List.mem_singleton]at hx;subst hx;omega)
 have H1:=aB (aA b1 z1)
 clear on1 hr1 b1 z1
 cases hnm:[s].all dG
 · have he:cK true [s]=21:=by simp only[cK,hnm];rfl
   rw[he]at hA
   have hres:D.app s data=(21,D):=by
    unfold Dk.app
    rw[H.out.2.2,he,if_pos (by decide)]
   rw[hres]
   clear he hres hnm
   go_enter Tryz.func163,Tryz.ntmps163
   go_wp2_with (go_at_call 144;refine hA.mono ?_;rintro e w2 ⟨rfl,hb2⟩;have H2:=aB hb2;clear hb2)
   go_ret
   have hb:Below w.heap.size w w2:=H1.out.1.trans ((((Below.refl _ _).alloc (Nat.le_refl _) _).trans (H2.out.mono (by simp))).mono H1.out.1.size)
   exact⟨rfl,H.out.1.below hb,Tn.ofBelow hb⟩
 · have he:cK true [s]=0:=by simp only[cK,hnm];rfl
   rw[he]at hA
   simp only[List.all_cons,List.all_nil,Bool.and_true,Bool.and_eq_true]at hnm
   have hl64:=nm_le hnm
   have HE:=aB (aA he hl64)
   clear he hnm hl64
   go_enter Tryz.func163,Tryz.ntmps163
   go_wp2_with (go_at_call 144;refine hA.mono ?_;rintro e w2 ⟨rfl,hb2⟩;have H2:=aB hb2;clear hb2)
   have hb12:Below w.heap.size w w2:=H1.out.1.trans ((((Below.refl _ _).alloc (Nat.le_refl _) _).trans (H2.out.mono (by simp))).mono H1.out.1.size)
   have hb2':Below W1.heap.size W1 w2:=((Below.refl _ _).alloc (Nat.le_refl _) _).trans (H2.out.mono (by simp))
   have g1:w2.cell? ⟨w.heap.size,0,none⟩=some (.pointer (some ⟨db,0,none⟩)):=(hb2'.cell (p:=⟨w.heap.size,0,none⟩) (by have:=H1.out.2;simp;omega)).trans dD
   have gN:w2.cell? ⟨w.heap.size+1,0,none⟩=some (.string s):=(hb2'.cell (p:=⟨w.heap.size+1,0,none⟩) (by have:=H1.out.2;simp;omega)).trans dN
   have gA:w2.cell? ⟨w.heap.size+2,0,none⟩=some (.string data):=(hb2'.cell (p:=⟨w.heap.size+2,0,none⟩) (by have:=H1.out.2;simp;omega)).trans dA
   have h2:=H.out.1.below hb12
   have g3:=h2.c0
   have hz2:w.heap.size+3≤w2.heap.size:=by have:=hb2'.size;have:=H1.out.2;omega
   have H22:=aB (aA hb12 (aA hb2' (aA h2 hz2)))
   clear dD dN dA hb12 hb2' h2 hA hW1
   have kd1:w2.drew.cell? ⟨w.heap.size,0,none⟩=some (.pointer (some ⟨db,0,none⟩)):=g1
   have kd2:w2.drew.cell? ⟨w.heap.size+1,0,none⟩=some (.string s):=gN
   have kd3:w2.drew.cell? ⟨db,0,none⟩=some (.map (some mb)):=g3
   obtain⟨fd,fs,isb,hx⟩:=flC D s
   have HXC:=aB hx
   clear hx
   have hlk:=kH (H22.out.2.2.1.below (Below.refl _ _).drew) HXC.out
   refine dQ (fun w'=>w'.cell? ⟨w.heap.size,0,none⟩=some (.pointer (some ⟨db,0,none⟩))∧w'.cell? ⟨w.heap.size+1,0,none⟩=some (.string s)∧w'.cell? ⟨db,0,none⟩=some (.map (some mb))∧(Instr.lookup 80 (.map (some mb)) (.string s) true).run Tryz.prog w'= .ok (.tuple #[.agg #[.string fd,.int .i64 (fs:Int)],.bool isb]) w') 11 12 ⟨kd1,kd2,kd3,hlk⟩ (fun hH=>?_)
   refine bU [[0],[1],[2],[3],[4],[5],[6],[7],[8]] hH ?_
   refine bM (i:=9) rfl (fun K hK=>?_)
   go_simp
   have hS3:∀ (x:Obj) (W:World),W=(w2.alloc x).drew→W.cell? ⟨w.heap.size,0,none⟩=some (.pointer (some ⟨db,0,none⟩))∧W.cell? ⟨w.heap.size+1,0,none⟩=some (.string s)∧W.cell? ⟨db,0,none⟩=some (.map (some mb))∧(Instr.lookup 80 (.map (some mb)) (.string s) true).run Tryz.prog W= .ok (.tuple #[.agg #[.string fd,.int .i64 (fs:Int)],.bool isb]) W:=by
    intro x W hW
    subst hW
    have hb:Below w2.heap.size w2 (w2.alloc x).drew:=((Below.refl _ _).alloc (Nat.le_refl _) _).drew
    exact⟨(hb.cell (p:=⟨w.heap.size,0,none⟩) (World.block_lt_of_cell? _ _ g1)).trans g1,(hb.cell (p:=⟨w.heap.size+1,0,none⟩) (World.block_lt_of_cell? _ _ gN)).trans gN,(hb.cell (p:=⟨db,0,none⟩) (World.block_lt_of_cell? _ _ g3)).trans g3,kH (H22.out.2.2.1.below hb) HXC.out⟩
   have HS3:=aB hS3
   clear hS3
   refine bH hK (HS3.out _ _ rfl) ?_
   clear hK K
   intro hH
   refine bM (i:=10) rfl (fun K hK=>?_)
   go_simp
   refine bH hK (HS3.out _ _ rfl) ?_
   clear hK K
   intro hH
   refine eU ?_
   clear hH
   obtain⟨w4,hw4⟩:∃ w4,w4=(w2.alloc (.cells #[.string fd,.int .i64 (fs:Int)] 113)).drew:=⟨_,rfl⟩
   have hb24:Below w2.heap.size w2 w4:=by rw[hw4];exact((Below.refl _ _).alloc (Nat.le_refl _) _).drew
   have q0:w4.cell? ⟨w2.heap.size,0,none⟩=some (.string fd):=by rw[hw4];simp[go_sem]
   have q1:w4.cell? ⟨w2.heap.size,1,none⟩=some (.int .i64 (fs:Int)):=by rw[hw4];simp[go_sem]
   have qf:∀ j,w4.frozen? ⟨w2.heap.size,j,none⟩=false:=fun j=>by rw[hw4];simp[go_sem]
   have qz:w4.heap.size=w2.heap.size+1:=by rw[hw4];simp
   rw[← hw4]
   clear hw4 hlk kd1 kd2 kd3 HS3
   have e1:=(hb24.cell (p:=⟨w.heap.size,0,none⟩) (World.block_lt_of_cell? _ _ g1)).trans g1
   have eN:=(hb24.cell (p:=⟨w.heap.size+1,0,none⟩) (World.block_lt_of_cell? _ _ gN)).trans gN
   have eA:=(hb24.cell (p:=⟨w.heap.size+2,0,none⟩) (World.block_lt_of_cell? _ _ gA)).trans gA
   have hb04:Below w.heap.size w w4:=H22.out.1.trans (hb24.mono H22.out.1.size)
   have e3:=(hb04.cell (p:=⟨db,0,none⟩) hlt).trans H.out.1.c0
   have H4:=aB (aA hb04 (aA (H.out.1.below hb04) (aA q0 (aA q1 (aA qf (aA qz hb24))))))
   clear hb24 hb04 qf qz
   rcases HXC.out with⟨hg,rfl,rfl,rfl⟩|⟨hg,rfl⟩
   · have hres:D.app s data=(22,D):=by
      unfold Dk.app
      rw[H.out.2.2,HE.out.1,if_neg (by decide)]
      rw[hg]
     have HR:=aB hres
     clear hres
     go_wp2
     go_ret
     exact⟨by rw[HR.out];rfl,by rw[HR.out];exact H4.out.2.1,Tn.ofBelow H4.out.1⟩
   · have hfs:=H.out.1.ok.syn _ (cG hg)
     simp only at hfs
     have hde:=isEmpty_iff data
     by_cases hlong:1048576<fd.size+data.size
     · have r1:(1048576:Int)<(fd.size:Int)+(data.size:Int):=by omega
       have hres:D.app s data=(2,D):=by
        unfold Dk.app
        rw[H.out.2.2,HE.out.1,if_neg (by decide)]
        rw[hg];show(if 1048576<fd.size+data.size then((2:Int),D)else if 0≤D.quota∧data.size≠0∧D.quota<(used D.m:Int)+data.size then(24,D)else D.act (fun m=>aG m s ⟨fd++data,fs⟩))=_;rw[if_pos hlong]
       have HR:=aB hres
       clear hres
       go_wp2
       go_ret
       exact⟨by rw[HR.out];rfl,by rw[HR.out];exact H4.out.2.1,Tn.ofBelow H4.out.1⟩
     · have r1:¬ (1048576:Int)<(fd.size:Int)+(data.size:Int):=by omega
       have hok2:(fd++data).size≤1048576:=by rw[ByteArray.size_append];omega
       have hok1:fs≤(fd++data).size:=by rw[ByteArray.size_append];have:=hfs.1;omega
       by_cases hq:0≤D.quota
       · by_cases hd0:data.size=0
         · have hde1:data.toList.isEmpty=true:=by rw[hde];exact decide_eq_true hd0
           have HDQ:=aB (aA hok1 (aA hok2 (aA hfs hd0)))
           clear hde hok1 hok2 hfs hd0
           have e9:w4.cell? ⟨db,2,none⟩=some (.int .i64 D.quota):=H4.out.2.1.c2
           have y1:w4.drew.cell? ⟨w.heap.size,0,none⟩=some (.pointer (some ⟨db,0,none⟩)):=e1
           have yA:w4.drew.cell? ⟨w.heap.size+2,0,none⟩=some (.string data):=eA
           have y2:w4.drew.cell? ⟨db,2,none⟩=some (.int .i64 D.quota):=e9
           go_wp2_with fail
           refine dQ (fun w'=>w'.cell? ⟨w.heap.size,0,none⟩=some (.pointer (some ⟨db,0,none⟩))∧w'.cell? ⟨w.heap.size+2,0,none⟩=some (.string data)∧w'.cell? ⟨db,2,none⟩=some (.int .i64 D.quota)) 21 22 ⟨y1,yA,y2⟩ (fun hH=>?_)
           refine bU [[0,1,2,3,4,5,9,11],[1,2,3,4,5,9,11],[2,3,4,5,9,11],[3,4,5,9,11],[4,5,9,11],[5,9,11],[6,7,8,9,11],[7,8,9,11],[8,9,11],[9,11],[1010,11],[1012,13,14,19,20],[1013,14,19,20],[1015,16,17,18,19,20],[1016,17,18,19,20],[1017,18,19,20],[1018,19,20]] hH ?_
           refine bM (i:=11) rfl (fun K hK=>?_)
           go_simp
           refine bH hK hH ?_
           clear hK K
           intro hH
           refine bU [[1014,19,20],[1019,20],[20]] hH ?_
           refine eU ?_
           clear hH y1 yA y2 e9
           obtain⟨w7,hw7⟩:∃ w7,w4.drew=w7:=⟨_,rfl⟩
           have hb47:Below w4.heap.size w4 w7:=by rw[← hw7];exact(Below.refl _ _).drew
           rw[hw7]
           clear hw7
           have e1:=(hb47.cell (p:=⟨w.heap.size,0,none⟩) (World.block_lt_of_cell? _ _ e1)).trans e1
           have eN:=(hb47.cell (p:=⟨w.heap.size+1,0,none⟩) (World.block_lt_of_cell? _ _ eN)).trans eN
           have eA:=(hb47.cell (p:=⟨w.heap.size+2,0,none⟩) (World.block_lt_of_cell? _ _ eA)).trans eA
           have hq0:=World.block_lt_of_cell? _ _ q0
           have hqf:∀ j,w7.frozen? ⟨w2.heap.size,j,none⟩=false:=fun j=>(hb47.frozen (p:=⟨w2.heap.size,j,none⟩) hq0).trans (H4.out.2.2.2.2.1 j)
           have q0:=(hb47.cell (p:=⟨w2.heap.size,0,none⟩) (World.block_lt_of_cell? _ _ q0)).trans q0
           have q1:=(hb47.cell (p:=⟨w2.heap.size,1,none⟩) (World.block_lt_of_cell? _ _ q1)).trans q1
           have H4':=aB (aA (H4.out.1.trans (hb47.mono H4.out.1.size)) (aA (H4.out.2.1.below hb47) (aA q0 (aA q1 (aA hqf (aA hb47 (H4.out.2.2.2.2.2.2.trans (hb47.mono H4.out.2.2.2.2.2.2.size))))))))
           have hz47:=hb47.size
           clear hb47 hqf
           have hok1:=HDQ.out.1
           have hok2:=HDQ.out.2.1
           have hres:D.app s data=D.act (fun m=>aG m s ⟨fd++data,fs⟩):=by
            unfold Dk.app
            rw[H.out.2.2,HE.out.1,if_neg (by decide)]
            rw[hg];show(if 1048576<fd.size+data.size then((2:Int),D)else if 0≤D.quota∧data.size≠0∧D.quota<(used D.m:Int)+data.size then(24,D)else D.act (fun m=>aG m s ⟨fd++data,fs⟩))=_;rw[if_neg hlong,if_neg (fun h=>h.2.1 HDQ.out.2.2.2)]
           have HR:=aB hres
           clear hres
           have h4:aF (fun q=>F q∨q=w2.heap.size) w7 db mb D:=H22.out.2.2.1.more (fun q hq=> .inl hq) (fun q hq=>hq.elim .inl (fun e=> .inr (by omega))) (fun q hq=>hq.elim (fun h=>Nat.lt_of_lt_of_le (H22.out.2.2.1.lt q h) (by have:=H4.out.2.2.2.2.2.1;omega)) (fun e=>by have:=H4.out.2.2.2.2.2.1;omega)) H4'.out.2.2.2.2.2.2
           have n0:∀ k,¬ aT db mb (w.heap.size+k):=fun k hq=>by
            have:=H.out.1.m.lt
            rcases hq with e|e<;>omega
           have nF:¬ aT db mb w2.heap.size:=fun hq=>by
            have:=H.out.1.m.lt
            have:=H22.out.2.2.2
            rcases hq with e|e<;>omega
           have hd:mC (fun q=>F q∨q=w2.heap.size) (fun q=>q=w2.heap.size) 250 #[.pointer (some ⟨w2.heap.size,0,none⟩),.pointer (some ⟨w.heap.size+2,0,none⟩),.pointer (some ⟨w.heap.size,0,none⟩),.pointer (some ⟨w.heap.size+1,0,none⟩)] w7 db mb D (fun m=>aG m s ⟨fd++data,fs⟩):=iI e1 eN q0 q1 H4'.out.2.2.2.2.1 eA (n0 0) (n0 1) nF (n0 2) (by have:=H22.out.2.2.2;omega) (by have:=H22.out.2.2.2;omega) (.inr rfl) HE.out.2 (by rw[hg];rfl) ⟨hok1,hok2⟩
           have HD:=aB (aA h4 hd)
           clear h4 hd n0 nF g1 g3 gN gA
           go_wp2_with fail
           refine(iK HD.out.1 H.out.2.1 ha (enters_of Tryz.func250 (by kernel_rfl) rfl) HD.out.2).mono ?_
           rintro e w5 ⟨rfl,hd5,ht5⟩
           have H5:=aB (aA hd5 ht5)
           clear hd5 ht5
           go_wp2
           go_ret
           refine⟨by rw[HR.out];rfl,?_,(Tn.ofBelow H4'.out.1).andThen H5.out.2 (fun q hq=>?_)⟩
           · rw[HR.out]
             exact H5.out.1.less (fun q hq=> .inl hq) H.out.1.fd H.out.1.fm
           · rcases hq with hq|hq
             · exact .inl hq
             · exact .inr (by have:=H22.out.2.2.2;omega)
         · have hde1:data.toList.isEmpty=false:=by rw[hde];exact decide_eq_false hd0
           have hub:used D.m≤20971520000:=by
            have h1:=used_le D.m (fun p hp=>(H.out.1.ok.syn p hp).2)
            have h2:=H.out.1.ok.few
            have h3:D.m.length*1048576≤20000*1048576:=Nat.mul_le_mul_right _ h2
            omega
           have hwr:IntKind.i64.wrap ((used D.m:Int)+(data.size:Int))=(used D.m:Int)+(data.size:Int):=IntWalk.i64_in _ (by omega)
           by_cases hov:D.quota<(used D.m:Int)+(data.size:Int)
           · have HDQ:=aB (aA hok1 (aA hok2 (aA hfs hd0)))
             clear hde hok1 hok2 hfs hd0
             have e9:w4.cell? ⟨db,2,none⟩=some (.int .i64 D.quota):=H4.out.2.1.c2
             have y1:w4.drew.cell? ⟨w.heap.size,0,none⟩=some (.pointer (some ⟨db,0,none⟩)):=e1
             have yA:w4.drew.cell? ⟨w.heap.size+2,0,none⟩=some (.string data):=eA
             have y2:w4.drew.cell? ⟨db,2,none⟩=some (.int .i64 D.quota):=e9
             go_wp2_with fail
             refine dQ (fun w'=>w'.cell? ⟨w.heap.size,0,none⟩=some (.pointer (some ⟨db,0,none⟩))∧w'.cell? ⟨w.heap.size+2,0,none⟩=some (.string data)∧w'.cell? ⟨db,2,none⟩=some (.int .i64 D.quota)) 21 22 ⟨y1,yA,y2⟩ (fun hH=>?_)
             refine bU [[0,1,2,3,4,5,9,11],[1,2,3,4,5,9,11],[2,3,4,5,9,11],[3,4,5,9,11],[4,5,9,11],[5,9,11],[6,7,8,9,11],[7,8,9,11],[8,9,11],[9,11],[10,11],[12,13,14,19,20],[13,14,19,20],[15,16,17,18,19,20],[16,17,18,19,20],[17,18,19,20],[18,19,20]] hH ?_
             refine bM (i:=11) rfl (fun K hK=>?_)
             go_simp
             go_at_call 249
             refine(used_any (H4.out.2.1.below (Below.refl _ _).drew)).mono ?_
             rintro e w6 ⟨rfl,hb6⟩
             have hb46:Below w4.heap.size w4 w6:=(Below.refl _ _).drew.trans hb6
             have x1:=(hb46.cell (p:=⟨w.heap.size,0,none⟩) (World.block_lt_of_cell? _ _ e1)).trans e1
             have xA:=(hb46.cell (p:=⟨w.heap.size+2,0,none⟩) (World.block_lt_of_cell? _ _ eA)).trans eA
             have x2:=(hb46.cell (p:=⟨db,2,none⟩) (World.block_lt_of_cell? _ _ e9)).trans e9
             refine bH hK ⟨x1,xA,x2⟩ ?_
             clear hK K
             intro hH
             refine bU [[14,19,20],[19,20],[20]] hH ?_
             refine eU ?_
             clear hH y1 yA y2 e9
             have hres:D.app s data=(24,D):=by
              unfold Dk.app
              rw[H.out.2.2,HE.out.1,if_neg (by decide)]
              rw[hg];show(if 1048576<fd.size+data.size then((2:Int),D)else if 0≤D.quota∧data.size≠0∧D.quota<(used D.m:Int)+data.size then(24,D)else D.act (fun m=>aG m s ⟨fd++data,fs⟩))=_;rw[if_neg hlong,if_pos ⟨hq,HDQ.out.2.2.2,hov⟩]
             have HR:=aB (aA hres hb46)
             clear hres hb46
             go_wp2
             go_ret
             exact⟨by rw[HR.out.1];rfl,by rw[HR.out.1];exact H4.out.2.1.below HR.out.2,Tn.ofBelow (H4.out.1.trans (HR.out.2.mono H4.out.1.size))⟩
           · have HDQ:=aB (aA hok1 (aA hok2 (aA hfs hd0)))
             clear hde hok1 hok2 hfs hd0
             have e9:w4.cell? ⟨db,2,none⟩=some (.int .i64 D.quota):=H4.out.2.1.c2
             have y1:w4.drew.cell? ⟨w.heap.size,0,none⟩=some (.pointer (some ⟨db,0,none⟩)):=e1
             have yA:w4.drew.cell? ⟨w.heap.size+2,0,none⟩=some (.string data):=eA
             have y2:w4.drew.cell? ⟨db,2,none⟩=some (.int .i64 D.quota):=e9
             go_wp2_with fail
             refine dQ (fun w'=>w'.cell? ⟨w.heap.size,0,none⟩=some (.pointer (some ⟨db,0,none⟩))∧w'.cell? ⟨w.heap.size+2,0,none⟩=some (.string data)∧w'.cell? ⟨db,2,none⟩=some (.int .i64 D.quota)) 21 22 ⟨y1,yA,y2⟩ (fun hH=>?_)
             refine bU [[0,1,2,3,4,5,9,11],[1,2,3,4,5,9,11],[2,3,4,5,9,11],[3,4,5,9,11],[4,5,9,11],[5,9,11],[6,7,8,9,11],[7,8,9,11],[8,9,11],[9,11],[10,11],[12,13,14,19,20],[13,14,19,20],[15,16,17,18,19,20],[16,17,18,19,20],[17,18,19,20],[18,19,20]] hH ?_
             refine bM (i:=11) rfl (fun K hK=>?_)
             go_simp
             go_at_call 249
             refine(used_any (H4.out.2.1.below (Below.refl _ _).drew)).mono ?_
             rintro e w6 ⟨rfl,hb6⟩
             have hb46:Below w4.heap.size w4 w6:=(Below.refl _ _).drew.trans hb6
             have x1:=(hb46.cell (p:=⟨w.heap.size,0,none⟩) (World.block_lt_of_cell? _ _ e1)).trans e1
             have xA:=(hb46.cell (p:=⟨w.heap.size+2,0,none⟩) (World.block_lt_of_cell? _ _ eA)).trans eA
             have x2:=(hb46.cell (p:=⟨db,2,none⟩) (World.block_lt_of_cell? _ _ e9)).trans e9
             refine bH hK ⟨x1,xA,x2⟩ ?_
             clear hK K
             intro hH
             refine bU [[14,19,20],[19,20],[20]] hH ?_
             refine eU ?_
             clear hH y1 yA y2 e9
             obtain⟨w7,hw7⟩:∃ w7,w6=w7:=⟨_,rfl⟩
             have hb47:Below w4.heap.size w4 w7:=by rw[← hw7];exact hb46
             rw[hw7]
             clear hw7
             have e1:=(hb47.cell (p:=⟨w.heap.size,0,none⟩) (World.block_lt_of_cell? _ _ e1)).trans e1
             have eN:=(hb47.cell (p:=⟨w.heap.size+1,0,none⟩) (World.block_lt_of_cell? _ _ eN)).trans eN
             have eA:=(hb47.cell (p:=⟨w.heap.size+2,0,none⟩) (World.block_lt_of_cell? _ _ eA)).trans eA
             have hq0:=World.block_lt_of_cell? _ _ q0
             have hqf:∀ j,w7.frozen? ⟨w2.heap.size,j,none⟩=false:=fun j=>(hb47.frozen (p:=⟨w2.heap.size,j,none⟩) hq0).trans (H4.out.2.2.2.2.1 j)
             have q0:=(hb47.cell (p:=⟨w2.heap.size,0,none⟩) (World.block_lt_of_cell? _ _ q0)).trans q0
             have q1:=(hb47.cell (p:=⟨w2.heap.size,1,none⟩) (World.block_lt_of_cell? _ _ q1)).trans q1
             have H4':=aB (aA (H4.out.1.trans (hb47.mono H4.out.1.size)) (aA (H4.out.2.1.below hb47) (aA q0 (aA q1 (aA hqf (aA hb47 (H4.out.2.2.2.2.2.2.trans (hb47.mono H4.out.2.2.2.2.2.2.size))))))))
             have hz47:=hb47.size
             clear hb47 hqf
             have hok1:=HDQ.out.1
             have hok2:=HDQ.out.2.1
             have hres:D.app s data=D.act (fun m=>aG m s ⟨fd++data,fs⟩):=by
              unfold Dk.app
              rw[H.out.2.2,HE.out.1,if_neg (by decide)]
              rw[hg];show(if 1048576<fd.size+data.size then((2:Int),D)else if 0≤D.quota∧data.size≠0∧D.quota<(used D.m:Int)+data.size then(24,D)else D.act (fun m=>aG m s ⟨fd++data,fs⟩))=_;rw[if_neg hlong,if_neg (fun h=>by have:=h.2.2;omega)]
             have HR:=aB hres
             clear hres
             have h4:aF (fun q=>F q∨q=w2.heap.size) w7 db mb D:=H22.out.2.2.1.more (fun q hq=> .inl hq) (fun q hq=>hq.elim .inl (fun e=> .inr (by omega))) (fun q hq=>hq.elim (fun h=>Nat.lt_of_lt_of_le (H22.out.2.2.1.lt q h) (by have:=H4.out.2.2.2.2.2.1;omega)) (fun e=>by have:=H4.out.2.2.2.2.2.1;omega)) H4'.out.2.2.2.2.2.2
             have n0:∀ k,¬ aT db mb (w.heap.size+k):=fun k hq=>by
              have:=H.out.1.m.lt
              rcases hq with e|e<;>omega
             have nF:¬ aT db mb w2.heap.size:=fun hq=>by
              have:=H.out.1.m.lt
              have:=H22.out.2.2.2
              rcases hq with e|e<;>omega
             have hd:mC (fun q=>F q∨q=w2.heap.size) (fun q=>q=w2.heap.size) 250 #[.pointer (some ⟨w2.heap.size,0,none⟩),.pointer (some ⟨w.heap.size+2,0,none⟩),.pointer (some ⟨w.heap.size,0,none⟩),.pointer (some ⟨w.heap.size+1,0,none⟩)] w7 db mb D (fun m=>aG m s ⟨fd++data,fs⟩):=iI e1 eN q0 q1 H4'.out.2.2.2.2.1 eA (n0 0) (n0 1) nF (n0 2) (by have:=H22.out.2.2.2;omega) (by have:=H22.out.2.2.2;omega) (.inr rfl) HE.out.2 (by rw[hg];rfl) ⟨hok1,hok2⟩
             have HD:=aB (aA h4 hd)
             clear h4 hd n0 nF g1 g3 gN gA
             go_wp2_with fail
             refine(iK HD.out.1 H.out.2.1 ha (enters_of Tryz.func250 (by kernel_rfl) rfl) HD.out.2).mono ?_
             rintro e w5 ⟨rfl,hd5,ht5⟩
             have H5:=aB (aA hd5 ht5)
             clear hd5 ht5
             go_wp2
             go_ret
             refine⟨by rw[HR.out];rfl,?_,(Tn.ofBelow H4'.out.1).andThen H5.out.2 (fun q hq=>?_)⟩
             · rw[HR.out]
               exact H5.out.1.less (fun q hq=> .inl hq) H.out.1.fd H.out.1.fm
             · rcases hq with hq|hq
               · exact .inl hq
               · exact .inr (by have:=H22.out.2.2.2;omega)
       · have HDQ:=aB (aA hok1 (aA hok2 hfs))
         have hqf:decide (0≤D.quota)=false:=decide_eq_false hq
         have HNQ:=aB hq
         clear hde hok1 hok2 hfs hq
         have e9:w4.cell? ⟨db,2,none⟩=some (.int .i64 D.quota):=H4.out.2.1.c2
         have y1:w4.drew.cell? ⟨w.heap.size,0,none⟩=some (.pointer (some ⟨db,0,none⟩)):=e1
         have yA:w4.drew.cell? ⟨w.heap.size+2,0,none⟩=some (.string data):=eA
         have y2:w4.drew.cell? ⟨db,2,none⟩=some (.int .i64 D.quota):=e9
         go_wp2_with fail
         refine dQ (fun w'=>w'.cell? ⟨w.heap.size,0,none⟩=some (.pointer (some ⟨db,0,none⟩))∧w'.cell? ⟨w.heap.size+2,0,none⟩=some (.string data)∧w'.cell? ⟨db,2,none⟩=some (.int .i64 D.quota)) 21 22 ⟨y1,yA,y2⟩ (fun hH=>?_)
         refine bU [[0,1,2,3,4,5,9,11],[1,2,3,4,5,9,11],[2,3,4,5,9,11],[3,4,5,9,11],[4,5,9,11],[5,9,11],[1006,7,8,9,11],[1007,8,9,11],[8,9,11],[9,11],[1010,11],[1012,13,14,19,20],[1013,14,19,20],[1015,16,17,18,19,20],[1016,17,18,19,20],[1017,18,19,20],[1018,19,20]] hH ?_
         refine bM (i:=11) rfl (fun K hK=>?_)
         go_simp
         refine bH hK hH ?_
         clear hK K
         intro hH
         refine bU [[1014,19,20],[1019,20],[20]] hH ?_
         refine eU ?_
         clear hH y1 yA y2 e9
         obtain⟨w7,hw7⟩:∃ w7,w4.drew=w7:=⟨_,rfl⟩
         have hb47:Below w4.heap.size w4 w7:=by rw[← hw7];exact(Below.refl _ _).drew
         rw[hw7]
         clear hw7
         have e1:=(hb47.cell (p:=⟨w.heap.size,0,none⟩) (World.block_lt_of_cell? _ _ e1)).trans e1
         have eN:=(hb47.cell (p:=⟨w.heap.size+1,0,none⟩) (World.block_lt_of_cell? _ _ eN)).trans eN
         have eA:=(hb47.cell (p:=⟨w.heap.size+2,0,none⟩) (World.block_lt_of_cell? _ _ eA)).trans eA
         have hq0:=World.block_lt_of_cell? _ _ q0
         have hqf:∀ j,w7.frozen? ⟨w2.heap.size,j,none⟩=false:=fun j=>(hb47.frozen (p:=⟨w2.heap.size,j,none⟩) hq0).trans (H4.out.2.2.2.2.1 j)
         have q0:=(hb47.cell (p:=⟨w2.heap.size,0,none⟩) (World.block_lt_of_cell? _ _ q0)).trans q0
         have q1:=(hb47.cell (p:=⟨w2.heap.size,1,none⟩) (World.block_lt_of_cell? _ _ q1)).trans q1
         have H4':=aB (aA (H4.out.1.trans (hb47.mono H4.out.1.size)) (aA (H4.out.2.1.below hb47) (aA q0 (aA q1 (aA hqf (aA hb47 (H4.out.2.2.2.2.2.2.trans (hb47.mono H4.out.2.2.2.2.2.2.size))))))))
         have hz47:=hb47.size
         clear hb47 hqf
         have hok1:=HDQ.out.1
         have hok2:=HDQ.out.2.1
         have hres:D.app s data=D.act (fun m=>aG m s ⟨fd++data,fs⟩):=by
          unfold Dk.app
          rw[H.out.2.2,HE.out.1,if_neg (by decide)]
          rw[hg];show(if 1048576<fd.size+data.size then((2:Int),D)else if 0≤D.quota∧data.size≠0∧D.quota<(used D.m:Int)+data.size then(24,D)else D.act (fun m=>aG m s ⟨fd++data,fs⟩))=_;rw[if_neg hlong,if_neg (fun h=>by have:=h.1;have:=HNQ.out;omega)]
         have HR:=aB hres
         clear hres
         have h4:aF (fun q=>F q∨q=w2.heap.size) w7 db mb D:=H22.out.2.2.1.more (fun q hq=> .inl hq) (fun q hq=>hq.elim .inl (fun e=> .inr (by omega))) (fun q hq=>hq.elim (fun h=>Nat.lt_of_lt_of_le (H22.out.2.2.1.lt q h) (by have:=H4.out.2.2.2.2.2.1;omega)) (fun e=>by have:=H4.out.2.2.2.2.2.1;omega)) H4'.out.2.2.2.2.2.2
         have n0:∀ k,¬ aT db mb (w.heap.size+k):=fun k hq=>by
          have:=H.out.1.m.lt
          rcases hq with e|e<;>omega
         have nF:¬ aT db mb w2.heap.size:=fun hq=>by
          have:=H.out.1.m.lt
          have:=H22.out.2.2.2
          rcases hq with e|e<;>omega
         have hd:mC (fun q=>F q∨q=w2.heap.size) (fun q=>q=w2.heap.size) 250 #[.pointer (some ⟨w2.heap.size,0,none⟩),.pointer (some ⟨w.heap.size+2,0,none⟩),.pointer (some ⟨w.heap.size,0,none⟩),.pointer (some ⟨w.heap.size+1,0,none⟩)] w7 db mb D (fun m=>aG m s ⟨fd++data,fs⟩):=iI e1 eN q0 q1 H4'.out.2.2.2.2.1 eA (n0 0) (n0 1) nF (n0 2) (by have:=H22.out.2.2.2;omega) (by have:=H22.out.2.2.2;omega) (.inr rfl) HE.out.2 (by rw[hg];rfl) ⟨hok1,hok2⟩
         have HD:=aB (aA h4 hd)
         clear h4 hd n0 nF g1 g3 gN gA
         go_wp2_with fail
         refine(iK HD.out.1 H.out.2.1 ha (enters_of Tryz.func250 (by kernel_rfl) rfl) HD.out.2).mono ?_
         rintro e w5 ⟨rfl,hd5,ht5⟩
         have H5:=aB (aA hd5 ht5)
         clear hd5 ht5
         go_wp2
         go_ret
         refine⟨by rw[HR.out];rfl,?_,(Tn.ofBelow H4'.out.1).andThen H5.out.2 (fun q hq=>?_)⟩
         · rw[HR.out]
           exact H5.out.1.less (fun q hq=> .inl hq) H.out.1.fd H.out.1.fm
         · rcases hq with hq|hq
           · exact .inl hq
           · exact .inr (by have:=H22.out.2.2.2;omega)
end
section
open Go.RowKit
variable {F G:Nat→Prop} {w w':World} {db mb:Nat} {D D':Dk}
theorem rdT_at {w:World} {s:ByteArray} (hs:s.size≤140737488351232) {o:Option Addr} {on:Bool} (h:OnAt w o on):Calls Tryz.prog 144 #[.pointer o,.slice (some ⟨w.heap.size,0,none⟩) 1 1] (w.alloc (.cells #[.string s] 9)) fun e w'=>
 e= .returned (.int .i64 (cK on [s]))∧Below w.heap.size w w':=by
 have h1:=fN (h.below ((Below.refl _ _).alloc (Nat.le_refl _) (.cells #[.string s] 9))) (lI (w:=w.alloc (.cells #[.string s] 9)) (b:=w.heap.size) (s:=s) (by simp[go_sem]) 1) (by simp) (fun x hx=>by rw[List.mem_singleton]at hx;subst hx;omega)
 refine h1.mono ?_
 rintro e w' ⟨rfl,hb⟩
 exact⟨rfl,((Below.refl _ _).alloc (Nat.le_refl _) _).trans (hb.mono (by simp))⟩
set_option maxRecDepth 100000 in
set_option maxHeartbeats 2000000 in
theorem read_any (h:aF F w db mb D) (hon:D.on=true) (s:ByteArray) (hs:s.size≤140737488351232):
 Calls Tryz.prog 32 #[.pointer (some ⟨db,0,none⟩),.string s] w fun e w'=>e= .returned (.tuple #[.string (D.read s).1,.int .i64 (D.read s).2])∧Below w.heap.size w w':=by
 have hask:D.asked [s]=cK true [s]:=by unfold Dk.asked cK;rw[hon]
 have c1:=h.c1
 rw[hon]at c1
 have hlt:=h.ltd
 have hA:=rdT_at (w:=w) hs (o:=some ⟨db,0,none⟩) (on:=true) (.inr ⟨db,rfl,c1⟩)
 have H:=aB (aA h (aA hask hlt))
 clear h hon hask hlt c1
 cases hnm:dG s
 · have he:cK true [s]=21:=by simp[cK,hnm]
   rw[he]at hA
   have hres:D.read s=(ByteArray.empty,21):=by
    unfold Dk.read
    rw[H.out.2.1,he,if_pos (by decide)]
   rw[hres]
   clear he hres hnm
   go_enter Tryz.func32,Tryz.ntmps32
   go_wp2_with (go_at_call 144;refine hA.mono ?_;rintro e w2 ⟨rfl,hb2⟩;have H2:=aB hb2;clear hb2)
   go_ret2
   exact⟨rfl,H2.out⟩
 · have he:cK true [s]=0:=by simp[cK,hnm]
   rw[he]at hA
   have hres:D.read s=match aH D.m s with|none=>(ByteArray.empty,22)|some f=>(f.data,0):=by
    unfold Dk.read
    rw[H.out.2.1,he,if_neg (by decide)]
    rfl
   have HE:=aB (aA he hres)
   clear he hnm hres
   go_enter Tryz.func32,Tryz.ntmps32
   go_wp2_with (go_at_call 144;refine hA.mono ?_;rintro e w2 ⟨rfl,hb2⟩;have H2:=aB hb2;clear hb2 hA;have g3:=(H.out.1.below H2.out).c0)
   cases hg:aH D.m s with
   |none=>
    have hlk:(Instr.lookup 80 (.map (some mb)) (.string s) true).run Tryz.prog w2= .ok (.tuple #[.agg #[.string ByteArray.empty,.int .i64 0],.bool false]) w2:=by
     have h5:=aL.look (H.out.1.below H2.out).m keyN und_map (z:= .agg #[.string ByteArray.empty,.int .i64 0]) (Tryz.zeroValue113 _) true s
     rw[hg]at h5
     exact h5
    have HL:=aB (aA HE.out.2 hg)
    clear hg
    rw[hlk]
    go_simp
    go_wp2_with fail
    go_ret2
    have hr:=HL.out.1
    rw[HL.out.2]at hr
    rw[hr]
    exact⟨rfl,H2.out.trans (((Below.refl _ _).alloc (Nat.le_refl _) _).mono H2.out.size)⟩
   |some f=>
    have hlk:(Instr.lookup 80 (.map (some mb)) (.string s) true).run Tryz.prog w2= .ok (.tuple #[.agg #[.string f.data,.int .i64 (f.syn:Int)],.bool true]) w2:=by
     have h5:=aL.look (H.out.1.below H2.out).m keyN und_map (z:= .agg #[.string ByteArray.empty,.int .i64 0]) (Tryz.zeroValue113 _) true s
     rw[hg]at h5
     exact h5
    have HL:=aB (aA HE.out.2 hg)
    clear hg
    rw[hlk]
    go_simp
    go_wp2_with fail
    go_ret2
    have hr:=HL.out.1
    rw[HL.out.2]at hr
    rw[hr]
    exact⟨rfl,H2.out.trans (((Below.refl _ _).alloc (Nat.le_refl _) _).mono H2.out.size)⟩
end
section
open Go.RowKit
variable {F G:Nat→Prop} {w w':World} {db mb:Nat} {D D':Dk}
end
section
open Go.RowKit
variable {F G:Nat→Prop} {w w':World} {db mb:Nat} {D D':Dk} {m m':Fm} {q:Int} {k:Nat} {s t:ByteArray} {fd:ByteArray} {fs:Nat} {data:ByteArray}
abbrev dkL (m:Fm) (q:Int) (k:Nat):Dk:=⟨m,true,q,none,k⟩
abbrev nA:ByteArray:=⟨#[97]⟩
abbrev nB:ByteArray:=⟨#[98]⟩
abbrev nC:ByteArray:=⟨#[99]⟩
abbrev nF:ByteArray:=⟨#[102]⟩
abbrev nG:ByteArray:=⟨#[103]⟩
example (x y z:Fl):aG [(nA,x),(nB,y)] nB z=[(nA,x),(nB,z)]:=rfl
example (x:Fl):aH [(nA,x)] nB=none:=rfl
example (x y:Fl):aH [(nA,x),(nB,y)] nB=some y:=rfl
example:dG nA=true:=rfl
example (x:Fl):bV [1] 2 (fJ ([(nF,x)].map (·.1))) 0 [(nF,x)]=[(nF,bJ x 1 2)]:=rfl
example (x y:Fl) (c:List Int):bV c 2 (fJ ([(nF,x),(nG,y)].map (·.1))) 0 [(nF,x),(nG,y)]=[(nF,bJ x (cutAt c 0) 2),(nG,bJ y (cutAt c 1) 2)]:=rfl
end
end Go.Proofs.YtpfibkgmfapnjaaGreatDoor
