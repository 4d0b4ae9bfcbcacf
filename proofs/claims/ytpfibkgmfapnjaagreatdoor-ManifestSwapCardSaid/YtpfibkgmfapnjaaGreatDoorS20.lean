/- Disk: Create, Append, Sync, Rename, Remove. -/
import Derived.Test.YtpfibkgmfapnjaaGreatDoorS19
set_option linter.unusedSimpArgs false
set_option linter.unusedVariables false
namespace Go.Proofs.YtpfibkgmfapnjaaGreatDoor
section
open Go.RowKit
variable {F G:Nat→Prop} {w w':World} {db mb:Nat} {D D':Dk}
theorem lI {w:World} {b:Nat} {s:ByteArray} (h:w.cell? ⟨b,0,none⟩=some (.string s)) (c:Nat):RdT w (.slice (some ⟨b,0,none⟩) 1 c) [s]:=
 ⟨_,c,rfl,.inr ⟨b,0,rfl,World.block_lt_of_cell? _ _ h,fun i hi=>by
  have:i=0:=by simp at hi;omega
  subst this
  exact h⟩⟩
theorem rdT_two {w:World} {b:Nat} {s t:ByteArray} (h:w.cell? ⟨b,0,none⟩=some (.string s)) (h2:w.cell? ⟨b,1,none⟩=some (.string t)) (c:Nat):RdT w (.slice (some ⟨b,0,none⟩) 2 c) [s,t]:=
 ⟨_,c,rfl,.inr ⟨b,0,rfl,World.block_lt_of_cell? _ _ h,fun i hi=>by
  have:i=0∨i=1:=by simp at hi;omega
  rcases this with rfl|rfl
  · exact h
  · exact h2⟩⟩
theorem nm_le {s:ByteArray} (h:dG s=true):s.size≤64:=by
 simp only[dG,Bool.and_eq_true,decide_eq_true_eq]at h
 exact h.1.2
theorem Dk.Ok.set' (h:D.Ok) {s:ByteArray} {f:Fl} (hl:D.m.length<20000) (hs:s.size≤64) (hf:f.syn≤f.data.size∧f.data.size≤1048576):(aG D.m s f).length≤20000:=by
 have:(aG D.m s f).length≤D.m.length+1:=cA.1
 omega
def FlC (D:Dk) (s fd:ByteArray) (fs:Nat) (isb:Bool):Prop:=(aH D.m s=none∧fd=ByteArray.empty∧fs=0∧isb=false)∨(aH D.m s=some ⟨fd,fs⟩∧isb=true)
theorem flC (D:Dk) (s:ByteArray):∃ fd fs isb,FlC D s fd fs isb:=by
 cases hg:aH D.m s with
 |none=>exact⟨_,_,_,.inl ⟨hg,rfl,rfl,rfl⟩⟩
 |some f=>exact⟨f.data,f.syn,_,.inr ⟨hg,rfl⟩⟩
theorem kH {fd s:ByteArray} {fs:Nat} {isb:Bool} (h:aF F w db mb D) (hx:FlC D s fd fs isb):(Instr.lookup 80 (.map (some mb)) (.string s) true).run Tryz.prog w= .ok (.tuple #[.agg #[.string fd,.int .i64 (fs:Int)],.bool isb]) w:=by
 have h5:=aL.look h.m keyN und_map (z:= .agg #[.string ByteArray.empty,.int .i64 0]) (Tryz.zeroValue113 _) true s
 rcases hx with⟨hg,rfl,rfl,rfl⟩|⟨hg,rfl⟩<;>rw[hg]at h5<;>exact h5
set_option maxRecDepth 100000 in
set_option maxHeartbeats 4000000 in
theorem kV (h:aF F w db mb D) (hon:D.on=true) (ha:D.acts<1000000) (s:ByteArray) (hs:s.size≤140737488351232):
 Calls Tryz.prog 161 #[.pointer (some ⟨db,0,none⟩),.string s] w fun e w'=>e= .returned (.int .i64 (D.create s).1)∧aF F w' db mb (D.create s).2∧Tn (aT db mb) w w':=by
 have hask:D.asked [s]=cK true [s]:=by unfold Dk.asked cK;rw[hon]
 have c1:=h.c1
 rw[hon]at c1
 have hlt:=h.ltd
 have hmf:∀ (fn:Fn) (first cap:Array Value) (w:World),(Instr.makeFunc fn first cap).run Tryz.prog w= .ok (.func fn first cap) w:=fun _ _ _ _=>rfl
 have H:=aB (aA h (aA hon hask))
 clear h hon hask
 obtain⟨W1,hW1⟩:∃ W1,(w.alloc (.cells #[.pointer (some ⟨db,0,none⟩)] 24)).alloc (.cells #[.string s] 9)=W1:=⟨_,rfl⟩
 have b1:Below w.heap.size w W1:=by rw[← hW1];exact((Below.refl _ _).alloc (Nat.le_refl _) _).alloc (by simp) _
 have z1:W1.heap.size=w.heap.size+2:=by rw[← hW1];simp
 have dD:W1.cell? ⟨w.heap.size,0,none⟩=some (.pointer (some ⟨db,0,none⟩)):=by rw[← hW1];simp[go_sem]
 have dN:W1.cell? ⟨w.heap.size+1,0,none⟩=some (.string s):=by rw[← hW1];simp[go_sem]
 have on1:OnAt W1 (some ⟨db,0,none⟩) true:= .inr ⟨db,rfl,(b1.cell (p:=⟨db,1,none⟩) hlt).trans c1⟩
 have hr1:RdT (W1.alloc (.cells #[.string s] 9)) (.slice (some ⟨W1.heap.size,0,none⟩) 1 1) [s]:=lI (by simp[go_sem]) 1
 have hA:=fN (on1.below ((Below.refl _ _).alloc (Nat.le_refl _) _)) hr1 (by simp) (fun x hx=>by rw[List.mem_singleton]at hx;subst hx;omega)
 have H1:=aB (aA b1 z1)
 clear on1 hr1 b1 z1
 cases hnm:[s].all dG
 · have he:cK true [s]=21:=by simp only[cK,hnm];rfl
   rw[he]at hA
   have hres:D.create s=(21,D):=by
    unfold Dk.create
    rw[H.out.2.2,he,if_pos (by decide)]
   rw[hres]
   clear he hres hnm
   go_enter Tryz.func161,Tryz.ntmps161
   go_wp2_with (go_at_call 144;refine hA.mono ?_;rintro e w2 ⟨rfl,hb2⟩;have H2:=aB hb2;clear hb2)
   go_ret
   have hb:Below w.heap.size w w2:=H1.out.1.trans ((((Below.refl _ _).alloc (Nat.le_refl _) _).trans (H2.out.mono (by simp))).mono H1.out.1.size)
   exact⟨rfl,H.out.1.below hb,Tn.ofBelow hb⟩
 · have he:cK true [s]=0:=by simp only[cK,hnm];rfl
   rw[he]at hA
   simp only[List.all_cons,List.all_nil,Bool.and_true,Bool.and_eq_true]at hnm
   have hl64:=nm_le hnm
   have HE:=aB (aA he hl64)
   clear he hnm hl64
   go_enter Tryz.func161,Tryz.ntmps161
   go_wp2_with (go_at_call 144;refine hA.mono ?_;rintro e w2 ⟨rfl,hb2⟩;have H2:=aB hb2;clear hb2)
   have hb12:Below w.heap.size w w2:=H1.out.1.trans ((((Below.refl _ _).alloc (Nat.le_refl _) _).trans (H2.out.mono (by simp))).mono H1.out.1.size)
   have hb2':Below W1.heap.size W1 w2:=((Below.refl _ _).alloc (Nat.le_refl _) _).trans (H2.out.mono (by simp))
   have g1:w2.cell? ⟨w.heap.size,0,none⟩=some (.pointer (some ⟨db,0,none⟩)):=(hb2'.cell (p:=⟨w.heap.size,0,none⟩) (by have:=H1.out.2;simp;omega)).trans dD
   have gN:w2.cell? ⟨w.heap.size+1,0,none⟩=some (.string s):=(hb2'.cell (p:=⟨w.heap.size+1,0,none⟩) (by have:=H1.out.2;simp;omega)).trans dN
   have h2:=H.out.1.below hb12
   have g3:=h2.c0
   have hz2:w.heap.size+2≤w2.heap.size:=by have:=hb2'.size;have:=H1.out.2;omega
   have H22:=aB (aA hb12 (aA hb2' (aA h2 hz2)))
   clear dD dN hb12 hb2' h2 hA hW1
   have kd1:w2.drew.cell? ⟨w.heap.size,0,none⟩=some (.pointer (some ⟨db,0,none⟩)):=g1
   have kd2:w2.drew.cell? ⟨w.heap.size+1,0,none⟩=some (.string s):=gN
   have kd3:w2.drew.cell? ⟨db,0,none⟩=some (.map (some mb)):=g3
   obtain⟨fd,fs,isb,hx⟩:=flC D s
   have HXC:=aB hx
   clear hx
   have hlk:=kH (H22.out.2.2.1.below (Below.refl _ _).drew) HXC.out
   refine dQ (fun w'=>w'.cell? ⟨w.heap.size,0,none⟩=some (.pointer (some ⟨db,0,none⟩))∧w'.cell? ⟨w.heap.size+1,0,none⟩=some (.string s)∧w'.cell? ⟨db,0,none⟩=some (.map (some mb))∧(Instr.lookup 80 (.map (some mb)) (.string s) true).run Tryz.prog w'= .ok (.tuple #[.agg #[.string fd,.int .i64 (fs:Int)],.bool isb]) w') 11 12 ⟨kd1,kd2,kd3,hlk⟩ (fun hH=>?_)
   refine bU [[0],[1],[2],[3],[4],[5],[6],[7],[8]] hH ?_
   refine bM (i:=9) rfl (fun K hK=>?_)
   go_simp
   have hS3:∀ (x:Obj) (W:World),W=(w2.alloc x).drew→W.cell? ⟨w.heap.size,0,none⟩=some (.pointer (some ⟨db,0,none⟩))∧W.cell? ⟨w.heap.size+1,0,none⟩=some (.string s)∧W.cell? ⟨db,0,none⟩=some (.map (some mb))∧(Instr.lookup 80 (.map (some mb)) (.string s) true).run Tryz.prog W= .ok (.tuple #[.agg #[.string fd,.int .i64 (fs:Int)],.bool isb]) W:=by
    intro x W hW
    subst hW
    have hb:Below w2.heap.size w2 (w2.alloc x).drew:=((Below.refl _ _).alloc (Nat.le_refl _) _).drew
    exact⟨(hb.cell (p:=⟨w.heap.size,0,none⟩) (World.block_lt_of_cell? _ _ g1)).trans g1,(hb.cell (p:=⟨w.heap.size+1,0,none⟩) (World.block_lt_of_cell? _ _ gN)).trans gN,(hb.cell (p:=⟨db,0,none⟩) (World.block_lt_of_cell? _ _ g3)).trans g3,kH (H22.out.2.2.1.below hb) HXC.out⟩
   have HS3:=aB hS3
   clear hS3
   refine bH hK (HS3.out _ _ rfl) ?_
   clear hK K
   intro hH
   refine bM (i:=10) rfl (fun K hK=>?_)
   go_simp
   refine bH hK (HS3.out _ _ rfl) ?_
   clear hK K
   intro hH
   refine eU ?_
   clear hH
   obtain⟨w4,hw4⟩:∃ w4,w4=(w2.alloc (.cells #[.string fd,.int .i64 (fs:Int)] 113)).drew:=⟨_,rfl⟩
   have hb24:Below w2.heap.size w2 w4:=by rw[hw4];exact((Below.refl _ _).alloc (Nat.le_refl _) _).drew
   have q0:w4.cell? ⟨w2.heap.size,0,none⟩=some (.string fd):=by rw[hw4];simp[go_sem]
   have q1:w4.cell? ⟨w2.heap.size,1,none⟩=some (.int .i64 (fs:Int)):=by rw[hw4];simp[go_sem]
   have qf:∀ j,w4.frozen? ⟨w2.heap.size,j,none⟩=false:=fun j=>by rw[hw4];simp[go_sem]
   have qz:w4.heap.size=w2.heap.size+1:=by rw[hw4];simp
   rw[← hw4]
   clear hw4 hlk kd1 kd2 kd3 HS3
   have e1:=(hb24.cell (p:=⟨w.heap.size,0,none⟩) (World.block_lt_of_cell? _ _ g1)).trans g1
   have eN:=(hb24.cell (p:=⟨w.heap.size+1,0,none⟩) (World.block_lt_of_cell? _ _ gN)).trans gN
   have hb04:Below w.heap.size w w4:=H22.out.1.trans (hb24.mono H22.out.1.size)
   have e3:=(hb04.cell (p:=⟨db,0,none⟩) hlt).trans H.out.1.c0
   have H4:=aB (aA hb04 (aA (H.out.1.below hb04) (aA q0 (aA q1 (aA qf (aA qz hb24))))))
   clear hb24 hb04 qf qz
   rcases HXC.out with⟨hg,rfl,rfl,rfl⟩|⟨hg,rfl⟩
   · by_cases hfull:20000≤D.m.length
     · have r1:(20000:Int)≤(D.m.length:Int):=by omega
       have hlen:=fun ty=>eS.len (P:=Tryz.prog) (ob:=some mb) (show eS kW cvF w4 (some mb) D.m from H4.out.2.1.m) und_map ty
       have hres:D.create s=(24,D):=by
        unfold Dk.create
        rw[H.out.2.2,HE.out.1,if_neg (by decide)]
        rw[hg];simp only[Option.isSome_none,Bool.false_eq_true,if_false];rw[if_pos hfull]
       have HR:=aB hres
       clear hres
       go_wp2
       go_ret
       exact⟨by rw[HR.out];rfl,by rw[HR.out];exact H4.out.2.1,Tn.ofBelow H4.out.1⟩
     · have r1:¬ (20000:Int)≤(D.m.length:Int):=by omega
       have hlen:=fun ty=>eS.len (P:=Tryz.prog) (ob:=some mb) (show eS kW cvF w4 (some mb) D.m from H4.out.2.1.m) und_map ty
       have hres:D.create s=D.act (fun m=>aG m s ⟨ByteArray.empty,0⟩):=by
        unfold Dk.create
        rw[H.out.2.2,HE.out.1,if_neg (by decide)]
        rw[hg];simp only[Option.isSome_none,Bool.false_eq_true,if_false];rw[if_neg hfull]
       have HR:=aB hres
       clear hres
       have h4:aF (fun q=>F q∨q=w2.heap.size) w4 db mb D:=H22.out.2.2.1.more (fun q hq=> .inl hq) (fun q hq=>hq.elim .inl (fun e=> .inr (by omega))) (fun q hq=>hq.elim (fun h=>Nat.lt_of_lt_of_le (H22.out.2.2.1.lt q h) (by have:=H4.out.2.2.2.2.2.1;omega)) (fun e=>by have:=H4.out.2.2.2.2.2.1;omega)) H4.out.2.2.2.2.2.2
       have n0:∀ k,¬ aT db mb (w.heap.size+k):=fun k hq=>by
        have:=H.out.1.m.lt
        rcases hq with e|e<;>omega
       have nF:¬ aT db mb w2.heap.size:=fun hq=>by
        have:=H.out.1.m.lt
        have:=H22.out.2.2.2
        rcases hq with e|e<;>omega
       have hd:mC (fun q=>F q∨q=w2.heap.size) (fun _=>False) 248 #[.pointer (some ⟨w.heap.size,0,none⟩),.pointer (some ⟨w.heap.size+1,0,none⟩)] w4 db mb D (fun m=>aG m s ⟨ByteArray.empty,0⟩):=create1_does e1 eN (n0 0) (n0 1) HE.out.2 (Dk.Ok.set' H.out.1.ok (by omega) HE.out.2 ⟨Nat.le_refl _,by decide⟩)
       have HD:=aB (aA h4 hd)
       clear h4 hd n0 nF g1 g3 gN
       go_wp2_with fail
       refine(iK HD.out.1 H.out.2.1 ha (enters_of Tryz.func248 (by kernel_rfl) rfl) HD.out.2).mono ?_
       rintro e w5 ⟨rfl,hd5,ht5⟩
       have H5:=aB (aA hd5 ht5)
       clear hd5 ht5
       go_wp2
       go_ret
       refine⟨by rw[HR.out];rfl,?_,(Tn.ofBelow H4.out.1).andThen H5.out.2 (fun q hq=>?_)⟩
       · rw[HR.out]
         exact H5.out.1.less (fun q hq=> .inl hq) H.out.1.fd H.out.1.fm
       · rcases hq with hq|hq
         · exact .inl hq
         · exact hq.elim
   · have hfs:=H.out.1.ok.syn _ (cG hg)
     simp only at hfs
     have hres:D.create s=(23,D):=by
      unfold Dk.create
      rw[H.out.2.2,HE.out.1,if_neg (by decide)]
      rw[hg];rfl
     have HR:=aB hres
     clear hres
     go_wp2
     go_ret
     exact⟨by rw[HR.out];rfl,by rw[HR.out];exact H4.out.2.1,Tn.ofBelow H4.out.1⟩
set_option maxRecDepth 100000 in
set_option maxHeartbeats 4000000 in
theorem sync_any (h:aF F w db mb D) (hon:D.on=true) (ha:D.acts<1000000) (s:ByteArray) (hs:s.size≤140737488351232):
 Calls Tryz.prog 157 #[.pointer (some ⟨db,0,none⟩),.string s] w fun e w'=>e= .returned (.int .i64 (D.sync s).1)∧aF F w' db mb (D.sync s).2∧Tn (aT db mb) w w':=by
 have hask:D.asked [s]=cK true [s]:=by unfold Dk.asked cK;rw[hon]
 have c1:=h.c1
 rw[hon]at c1
 have hlt:=h.ltd
 have hmf:∀ (fn:Fn) (first cap:Array Value) (w:World),(Instr.makeFunc fn first cap).run Tryz.prog w= .ok (.func fn first cap) w:=fun _ _ _ _=>rfl
 have H:=aB (aA h (aA hon hask))
 clear h hon hask
 obtain⟨W1,hW1⟩:∃ W1,(w.alloc (.cells #[.pointer (some ⟨db,0,none⟩)] 24)).alloc (.cells #[.string s] 9)=W1:=⟨_,rfl⟩
 have b1:Below w.heap.size w W1:=by rw[← hW1];exact((Below.refl _ _).alloc (Nat.le_refl _) _).alloc (by simp) _
 have z1:W1.heap.size=w.heap.size+2:=by rw[← hW1];simp
 have dD:W1.cell? ⟨w.heap.size,0,none⟩=some (.pointer (some ⟨db,0,none⟩)):=by rw[← hW1];simp[go_sem]
 have dN:W1.cell? ⟨w.heap.size+1,0,none⟩=some (.string s):=by rw[← hW1];simp[go_sem]
 have on1:OnAt W1 (some ⟨db,0,none⟩) true:= .inr ⟨db,rfl,(b1.cell (p:=⟨db,1,none⟩) hlt).trans c1⟩
 have hr1:RdT (W1.alloc (.cells #[.string s] 9)) (.slice (some ⟨W1.heap.size,0,none⟩) 1 1) [s]:=lI (by simp[go_sem]) 1
 have hA:=fN (on1.below ((Below.refl _ _).alloc (Nat.le_refl _) _)) hr1 (by simp) (fun x hx=>by rw[List.mem_singleton]at hx;subst hx;omega)
 have H1:=aB (aA b1 z1)
 clear on1 hr1 b1 z1
 cases hnm:[s].all dG
 · have he:cK true [s]=21:=by simp only[cK,hnm];rfl
   rw[he]at hA
   have hres:D.sync s=(21,D):=by
    unfold Dk.sync
    rw[H.out.2.2,he,if_pos (by decide)]
   rw[hres]
   clear he hres hnm
   go_enter Tryz.func157,Tryz.ntmps157
   go_wp2_with (go_at_call 144;refine hA.mono ?_;rintro e w2 ⟨rfl,hb2⟩;have H2:=aB hb2;clear hb2)
   go_ret
   have hb:Below w.heap.size w w2:=H1.out.1.trans ((((Below.refl _ _).alloc (Nat.le_refl _) _).trans (H2.out.mono (by simp))).mono H1.out.1.size)
   exact⟨rfl,H.out.1.below hb,Tn.ofBelow hb⟩
 · have he:cK true [s]=0:=by simp only[cK,hnm];rfl
   rw[he]at hA
   simp only[List.all_cons,List.all_nil,Bool.and_true,Bool.and_eq_true]at hnm
   have hl64:=nm_le hnm
   have HE:=aB (aA he hl64)
   clear he hnm hl64
   go_enter Tryz.func157,Tryz.ntmps157
   go_wp2_with (go_at_call 144;refine hA.mono ?_;rintro e w2 ⟨rfl,hb2⟩;have H2:=aB hb2;clear hb2)
   have hb12:Below w.heap.size w w2:=H1.out.1.trans ((((Below.refl _ _).alloc (Nat.le_refl _) _).trans (H2.out.mono (by simp))).mono H1.out.1.size)
   have hb2':Below W1.heap.size W1 w2:=((Below.refl _ _).alloc (Nat.le_refl _) _).trans (H2.out.mono (by simp))
   have g1:w2.cell? ⟨w.heap.size,0,none⟩=some (.pointer (some ⟨db,0,none⟩)):=(hb2'.cell (p:=⟨w.heap.size,0,none⟩) (by have:=H1.out.2;simp;omega)).trans dD
   have gN:w2.cell? ⟨w.heap.size+1,0,none⟩=some (.string s):=(hb2'.cell (p:=⟨w.heap.size+1,0,none⟩) (by have:=H1.out.2;simp;omega)).trans dN
   have h2:=H.out.1.below hb12
   have g3:=h2.c0
   have hz2:w.heap.size+2≤w2.heap.size:=by have:=hb2'.size;have:=H1.out.2;omega
   have H22:=aB (aA hb12 (aA hb2' (aA h2 hz2)))
   clear dD dN hb12 hb2' h2 hA hW1
   have kd1:w2.drew.cell? ⟨w.heap.size,0,none⟩=some (.pointer (some ⟨db,0,none⟩)):=g1
   have kd2:w2.drew.cell? ⟨w.heap.size+1,0,none⟩=some (.string s):=gN
   have kd3:w2.drew.cell? ⟨db,0,none⟩=some (.map (some mb)):=g3
   obtain⟨fd,fs,isb,hx⟩:=flC D s
   have HXC:=aB hx
   clear hx
   have hlk:=kH (H22.out.2.2.1.below (Below.refl _ _).drew) HXC.out
   refine dQ (fun w'=>w'.cell? ⟨w.heap.size,0,none⟩=some (.pointer (some ⟨db,0,none⟩))∧w'.cell? ⟨w.heap.size+1,0,none⟩=some (.string s)∧w'.cell? ⟨db,0,none⟩=some (.map (some mb))∧(Instr.lookup 80 (.map (some mb)) (.string s) true).run Tryz.prog w'= .ok (.tuple #[.agg #[.string fd,.int .i64 (fs:Int)],.bool isb]) w') 11 12 ⟨kd1,kd2,kd3,hlk⟩ (fun hH=>?_)
   refine bU [[0],[1],[2],[3],[4],[5],[6],[7],[8]] hH ?_
   refine bM (i:=9) rfl (fun K hK=>?_)
   go_simp
   have hS3:∀ (x:Obj) (W:World),W=(w2.alloc x).drew→W.cell? ⟨w.heap.size,0,none⟩=some (.pointer (some ⟨db,0,none⟩))∧W.cell? ⟨w.heap.size+1,0,none⟩=some (.string s)∧W.cell? ⟨db,0,none⟩=some (.map (some mb))∧(Instr.lookup 80 (.map (some mb)) (.string s) true).run Tryz.prog W= .ok (.tuple #[.agg #[.string fd,.int .i64 (fs:Int)],.bool isb]) W:=by
    intro x W hW
    subst hW
    have hb:Below w2.heap.size w2 (w2.alloc x).drew:=((Below.refl _ _).alloc (Nat.le_refl _) _).drew
    exact⟨(hb.cell (p:=⟨w.heap.size,0,none⟩) (World.block_lt_of_cell? _ _ g1)).trans g1,(hb.cell (p:=⟨w.heap.size+1,0,none⟩) (World.block_lt_of_cell? _ _ gN)).trans gN,(hb.cell (p:=⟨db,0,none⟩) (World.block_lt_of_cell? _ _ g3)).trans g3,kH (H22.out.2.2.1.below hb) HXC.out⟩
   have HS3:=aB hS3
   clear hS3
   refine bH hK (HS3.out _ _ rfl) ?_
   clear hK K
   intro hH
   refine bM (i:=10) rfl (fun K hK=>?_)
   go_simp
   refine bH hK (HS3.out _ _ rfl) ?_
   clear hK K
   intro hH
   refine eU ?_
   clear hH
   obtain⟨w4,hw4⟩:∃ w4,w4=(w2.alloc (.cells #[.string fd,.int .i64 (fs:Int)] 113)).drew:=⟨_,rfl⟩
   have hb24:Below w2.heap.size w2 w4:=by rw[hw4];exact((Below.refl _ _).alloc (Nat.le_refl _) _).drew
   have q0:w4.cell? ⟨w2.heap.size,0,none⟩=some (.string fd):=by rw[hw4];simp[go_sem]
   have q1:w4.cell? ⟨w2.heap.size,1,none⟩=some (.int .i64 (fs:Int)):=by rw[hw4];simp[go_sem]
   have qf:∀ j,w4.frozen? ⟨w2.heap.size,j,none⟩=false:=fun j=>by rw[hw4];simp[go_sem]
   have qz:w4.heap.size=w2.heap.size+1:=by rw[hw4];simp
   rw[← hw4]
   clear hw4 hlk kd1 kd2 kd3 HS3
   have e1:=(hb24.cell (p:=⟨w.heap.size,0,none⟩) (World.block_lt_of_cell? _ _ g1)).trans g1
   have eN:=(hb24.cell (p:=⟨w.heap.size+1,0,none⟩) (World.block_lt_of_cell? _ _ gN)).trans gN
   have hb04:Below w.heap.size w w4:=H22.out.1.trans (hb24.mono H22.out.1.size)
   have e3:=(hb04.cell (p:=⟨db,0,none⟩) hlt).trans H.out.1.c0
   have H4:=aB (aA hb04 (aA (H.out.1.below hb04) (aA q0 (aA q1 (aA qf (aA qz hb24))))))
   clear hb24 hb04 qf qz
   rcases HXC.out with⟨hg,rfl,rfl,rfl⟩|⟨hg,rfl⟩
   · have hres:D.sync s=(22,D):=by
      unfold Dk.sync
      rw[H.out.2.2,HE.out.1,if_neg (by decide)]
      rw[hg]
     have HR:=aB hres
     clear hres
     go_wp2
     go_ret
     exact⟨by rw[HR.out];rfl,by rw[HR.out];exact H4.out.2.1,Tn.ofBelow H4.out.1⟩
   · have hfs:=H.out.1.ok.syn _ (cG hg)
     simp only at hfs
     have hres:D.sync s=D.act (fun m=>aG m s ⟨fd,fd.size⟩):=by
      unfold Dk.sync
      rw[H.out.2.2,HE.out.1,if_neg (by decide)]
      rw[hg]
     have HR:=aB hres
     clear hres
     have h4:aF (fun q=>F q∨q=w2.heap.size) w4 db mb D:=H22.out.2.2.1.more (fun q hq=> .inl hq) (fun q hq=>hq.elim .inl (fun e=> .inr (by omega))) (fun q hq=>hq.elim (fun h=>Nat.lt_of_lt_of_le (H22.out.2.2.1.lt q h) (by have:=H4.out.2.2.2.2.2.1;omega)) (fun e=>by have:=H4.out.2.2.2.2.2.1;omega)) H4.out.2.2.2.2.2.2
     have n0:∀ k,¬ aT db mb (w.heap.size+k):=fun k hq=>by
      have:=H.out.1.m.lt
      rcases hq with e|e<;>omega
     have nF:¬ aT db mb w2.heap.size:=fun hq=>by
      have:=H.out.1.m.lt
      have:=H22.out.2.2.2
      rcases hq with e|e<;>omega
     have hd:mC (fun q=>F q∨q=w2.heap.size) (fun q=>q=w2.heap.size) 245 #[.pointer (some ⟨w2.heap.size,0,none⟩),.pointer (some ⟨w.heap.size,0,none⟩),.pointer (some ⟨w.heap.size+1,0,none⟩)] w4 db mb D (fun m=>aG m s ⟨fd,fd.size⟩):=sync1_does e1 eN q0 q1 H4.out.2.2.2.2.1 (n0 0) (n0 1) nF (by have:=H22.out.2.2.2;omega) (by have:=H22.out.2.2.2;omega) (.inr rfl) HE.out.2 (by rw[hg];rfl) ⟨Nat.le_refl _,hfs.2⟩
     have HD:=aB (aA h4 hd)
     clear h4 hd n0 nF g1 g3 gN
     go_wp2_with fail
     refine(iK HD.out.1 H.out.2.1 ha (enters_of Tryz.func245 (by kernel_rfl) rfl) HD.out.2).mono ?_
     rintro e w5 ⟨rfl,hd5,ht5⟩
     have H5:=aB (aA hd5 ht5)
     clear hd5 ht5
     go_wp2
     go_ret
     refine⟨by rw[HR.out];rfl,?_,(Tn.ofBelow H4.out.1).andThen H5.out.2 (fun q hq=>?_)⟩
     · rw[HR.out]
       exact H5.out.1.less (fun q hq=> .inl hq) H.out.1.fd H.out.1.fm
     · rcases hq with hq|hq
       · exact .inl hq
       · exact .inr (by have:=H22.out.2.2.2;omega)
set_option maxRecDepth 100000 in
set_option maxHeartbeats 4000000 in
theorem fP (h:aF F w db mb D) (hon:D.on=true) (ha:D.acts<1000000) (s:ByteArray) (hs:s.size≤140737488351232):
 Calls Tryz.prog 159 #[.pointer (some ⟨db,0,none⟩),.string s] w fun e w'=>e= .returned (.int .i64 (D.remove s).1)∧aF F w' db mb (D.remove s).2∧Tn (aT db mb) w w':=by
 have hask:D.asked [s]=cK true [s]:=by unfold Dk.asked cK;rw[hon]
 have c1:=h.c1
 rw[hon]at c1
 have hlt:=h.ltd
 have hmf:∀ (fn:Fn) (first cap:Array Value) (w:World),(Instr.makeFunc fn first cap).run Tryz.prog w= .ok (.func fn first cap) w:=fun _ _ _ _=>rfl
 have H:=aB (aA h (aA hon hask))
 clear h hon hask
 obtain⟨W1,hW1⟩:∃ W1,(w.alloc (.cells #[.pointer (some ⟨db,0,none⟩)] 24)).alloc (.cells #[.string s] 9)=W1:=⟨_,rfl⟩
 have b1:Below w.heap.size w W1:=by rw[← hW1];exact((Below.refl _ _).alloc (Nat.le_refl _) _).alloc (by simp) _
 have z1:W1.heap.size=w.heap.size+2:=by rw[← hW1];simp
 have dD:W1.cell? ⟨w.heap.size,0,none⟩=some (.pointer (some ⟨db,0,none⟩)):=by rw[← hW1];simp[go_sem]
 have dN:W1.cell? ⟨w.heap.size+1,0,none⟩=some (.string s):=by rw[← hW1];simp[go_sem]
 have on1:OnAt W1 (some ⟨db,0,none⟩) true:= .inr ⟨db,rfl,(b1.cell (p:=⟨db,1,none⟩) hlt).trans c1⟩
 have hr1:RdT (W1.alloc (.cells #[.string s] 9)) (.slice (some ⟨W1.heap.size,0,none⟩) 1 1) [s]:=lI (by simp[go_sem]) 1
 have hA:=fN (on1.below ((Below.refl _ _).alloc (Nat.le_refl _) _)) hr1 (by simp) (fun x hx=>by rw[List.mem_singleton]at hx;subst hx;omega)
 have H1:=aB (aA b1 z1)
 clear on1 hr1 b1 z1
 cases hnm:[s].all dG
 · have he:cK true [s]=21:=by simp only[cK,hnm];rfl
   rw[he]at hA
   have hres:D.remove s=(21,D):=by
    unfold Dk.remove
    rw[H.out.2.2,he,if_pos (by decide)]
   rw[hres]
   clear he hres hnm
   go_enter Tryz.func159,Tryz.ntmps159
   go_wp2_with (go_at_call 144;refine hA.mono ?_;rintro e w2 ⟨rfl,hb2⟩;have H2:=aB hb2;clear hb2)
   go_ret
   have hb:Below w.heap.size w w2:=H1.out.1.trans ((((Below.refl _ _).alloc (Nat.le_refl _) _).trans (H2.out.mono (by simp))).mono H1.out.1.size)
   exact⟨rfl,H.out.1.below hb,Tn.ofBelow hb⟩
 · have he:cK true [s]=0:=by simp only[cK,hnm];rfl
   rw[he]at hA
   simp only[List.all_cons,List.all_nil,Bool.and_true,Bool.and_eq_true]at hnm
   have hl64:=nm_le hnm
   have HE:=aB (aA he hl64)
   clear he hnm hl64
   go_enter Tryz.func159,Tryz.ntmps159
   go_wp2_with (go_at_call 144;refine hA.mono ?_;rintro e w2 ⟨rfl,hb2⟩;have H2:=aB hb2;clear hb2)
   have hb12:Below w.heap.size w w2:=H1.out.1.trans ((((Below.refl _ _).alloc (Nat.le_refl _) _).trans (H2.out.mono (by simp))).mono H1.out.1.size)
   have hb2':Below W1.heap.size W1 w2:=((Below.refl _ _).alloc (Nat.le_refl _) _).trans (H2.out.mono (by simp))
   have g1:w2.cell? ⟨w.heap.size,0,none⟩=some (.pointer (some ⟨db,0,none⟩)):=(hb2'.cell (p:=⟨w.heap.size,0,none⟩) (by have:=H1.out.2;simp;omega)).trans dD
   have gN:w2.cell? ⟨w.heap.size+1,0,none⟩=some (.string s):=(hb2'.cell (p:=⟨w.heap.size+1,0,none⟩) (by have:=H1.out.2;simp;omega)).trans dN
   have h2:=H.out.1.below hb12
   have g3:=h2.c0
   have hz2:w.heap.size+2≤w2.heap.size:=by have:=hb2'.size;have:=H1.out.2;omega
   have H22:=aB (aA hb12 (aA hb2' (aA h2 hz2)))
   clear dD dN hb12 hb2' h2 hA hW1
   have kd1:w2.drew.cell? ⟨w.heap.size,0,none⟩=some (.pointer (some ⟨db,0,none⟩)):=g1
   have kd2:w2.drew.cell? ⟨w.heap.size+1,0,none⟩=some (.string s):=gN
   have kd3:w2.drew.cell? ⟨db,0,none⟩=some (.map (some mb)):=g3
   obtain⟨fd,fs,isb,hx⟩:=flC D s
   have HXC:=aB hx
   clear hx
   have hlk:=kH (H22.out.2.2.1.below (Below.refl _ _).drew) HXC.out
   refine dQ (fun w'=>w'.cell? ⟨w.heap.size,0,none⟩=some (.pointer (some ⟨db,0,none⟩))∧w'.cell? ⟨w.heap.size+1,0,none⟩=some (.string s)∧w'.cell? ⟨db,0,none⟩=some (.map (some mb))∧(Instr.lookup 80 (.map (some mb)) (.string s) true).run Tryz.prog w'= .ok (.tuple #[.agg #[.string fd,.int .i64 (fs:Int)],.bool isb]) w') 11 12 ⟨kd1,kd2,kd3,hlk⟩ (fun hH=>?_)
   refine bU [[0],[1],[2],[3],[4],[5],[6],[7],[8]] hH ?_
   refine bM (i:=9) rfl (fun K hK=>?_)
   go_simp
   have hS3:∀ (x:Obj) (W:World),W=(w2.alloc x).drew→W.cell? ⟨w.heap.size,0,none⟩=some (.pointer (some ⟨db,0,none⟩))∧W.cell? ⟨w.heap.size+1,0,none⟩=some (.string s)∧W.cell? ⟨db,0,none⟩=some (.map (some mb))∧(Instr.lookup 80 (.map (some mb)) (.string s) true).run Tryz.prog W= .ok (.tuple #[.agg #[.string fd,.int .i64 (fs:Int)],.bool isb]) W:=by
    intro x W hW
    subst hW
    have hb:Below w2.heap.size w2 (w2.alloc x).drew:=((Below.refl _ _).alloc (Nat.le_refl _) _).drew
    exact⟨(hb.cell (p:=⟨w.heap.size,0,none⟩) (World.block_lt_of_cell? _ _ g1)).trans g1,(hb.cell (p:=⟨w.heap.size+1,0,none⟩) (World.block_lt_of_cell? _ _ gN)).trans gN,(hb.cell (p:=⟨db,0,none⟩) (World.block_lt_of_cell? _ _ g3)).trans g3,kH (H22.out.2.2.1.below hb) HXC.out⟩
   have HS3:=aB hS3
   clear hS3
   refine bH hK (HS3.out _ _ rfl) ?_
   clear hK K
   intro hH
   refine bM (i:=10) rfl (fun K hK=>?_)
   go_simp
   refine bH hK (HS3.out _ _ rfl) ?_
   clear hK K
   intro hH
   refine eU ?_
   clear hH
   obtain⟨w4,hw4⟩:∃ w4,w4=(w2.alloc (.cells #[.string fd,.int .i64 (fs:Int)] 113)).drew:=⟨_,rfl⟩
   have hb24:Below w2.heap.size w2 w4:=by rw[hw4];exact((Below.refl _ _).alloc (Nat.le_refl _) _).drew
   have q0:w4.cell? ⟨w2.heap.size,0,none⟩=some (.string fd):=by rw[hw4];simp[go_sem]
   have q1:w4.cell? ⟨w2.heap.size,1,none⟩=some (.int .i64 (fs:Int)):=by rw[hw4];simp[go_sem]
   have qf:∀ j,w4.frozen? ⟨w2.heap.size,j,none⟩=false:=fun j=>by rw[hw4];simp[go_sem]
   have qz:w4.heap.size=w2.heap.size+1:=by rw[hw4];simp
   rw[← hw4]
   clear hw4 hlk kd1 kd2 kd3 HS3
   have e1:=(hb24.cell (p:=⟨w.heap.size,0,none⟩) (World.block_lt_of_cell? _ _ g1)).trans g1
   have eN:=(hb24.cell (p:=⟨w.heap.size+1,0,none⟩) (World.block_lt_of_cell? _ _ gN)).trans gN
   have hb04:Below w.heap.size w w4:=H22.out.1.trans (hb24.mono H22.out.1.size)
   have e3:=(hb04.cell (p:=⟨db,0,none⟩) hlt).trans H.out.1.c0
   have H4:=aB (aA hb04 (aA (H.out.1.below hb04) (aA q0 (aA q1 (aA qf (aA qz hb24))))))
   clear hb24 hb04 qf qz
   rcases HXC.out with⟨hg,rfl,rfl,rfl⟩|⟨hg,rfl⟩
   · have hres:D.remove s=(22,D):=by
      unfold Dk.remove
      rw[H.out.2.2,HE.out.1,if_neg (by decide)]
      rw[hg]
     have HR:=aB hres
     clear hres
     go_wp2
     go_ret
     exact⟨by rw[HR.out];rfl,by rw[HR.out];exact H4.out.2.1,Tn.ofBelow H4.out.1⟩
   · have hfs:=H.out.1.ok.syn _ (cG hg)
     simp only at hfs
     have hres:D.remove s=D.act (fun m=>aW m s):=by
      unfold Dk.remove
      rw[H.out.2.2,HE.out.1,if_neg (by decide)]
      rw[hg]
     have HR:=aB hres
     clear hres
     have h4:aF (fun q=>F q∨q=w2.heap.size) w4 db mb D:=H22.out.2.2.1.more (fun q hq=> .inl hq) (fun q hq=>hq.elim .inl (fun e=> .inr (by omega))) (fun q hq=>hq.elim (fun h=>Nat.lt_of_lt_of_le (H22.out.2.2.1.lt q h) (by have:=H4.out.2.2.2.2.2.1;omega)) (fun e=>by have:=H4.out.2.2.2.2.2.1;omega)) H4.out.2.2.2.2.2.2
     have n0:∀ k,¬ aT db mb (w.heap.size+k):=fun k hq=>by
      have:=H.out.1.m.lt
      rcases hq with e|e<;>omega
     have nF:¬ aT db mb w2.heap.size:=fun hq=>by
      have:=H.out.1.m.lt
      have:=H22.out.2.2.2
      rcases hq with e|e<;>omega
     have hd:mC (fun q=>F q∨q=w2.heap.size) (fun _=>False) 247 #[.pointer (some ⟨w.heap.size,0,none⟩),.pointer (some ⟨w.heap.size+1,0,none⟩)] w4 db mb D (fun m=>aW m s):=remove1_does e1 eN (n0 0) (n0 1)
     have HD:=aB (aA h4 hd)
     clear h4 hd n0 nF g1 g3 gN
     go_wp2_with fail
     refine(iK HD.out.1 H.out.2.1 ha (enters_of Tryz.func247 (by kernel_rfl) rfl) HD.out.2).mono ?_
     rintro e w5 ⟨rfl,hd5,ht5⟩
     have H5:=aB (aA hd5 ht5)
     clear hd5 ht5
     go_wp2
     go_ret
     refine⟨by rw[HR.out];rfl,?_,(Tn.ofBelow H4.out.1).andThen H5.out.2 (fun q hq=>?_)⟩
     · rw[HR.out]
       exact H5.out.1.less (fun q hq=> .inl hq) H.out.1.fd H.out.1.fm
     · rcases hq with hq|hq
       · exact .inl hq
       · exact hq.elim
set_option maxRecDepth 100000 in
set_option maxHeartbeats 4000000 in
theorem rename_any (h:aF F w db mb D) (hon:D.on=true) (ha:D.acts<1000000) (s:ByteArray) (t:ByteArray) (hs:s.size≤140737488351232) (ht:t.size≤140737488351232):
 Calls Tryz.prog 166 #[.pointer (some ⟨db,0,none⟩),.string s,.string t] w fun e w'=>e= .returned (.int .i64 (D.rename s t).1)∧aF F w' db mb (D.rename s t).2∧Tn (aT db mb) w w':=by
 have hask:D.asked [s,t]=cK true [s,t]:=by unfold Dk.asked cK;rw[hon]
 have c1:=h.c1
 rw[hon]at c1
 have hlt:=h.ltd
 have hmf:∀ (fn:Fn) (first cap:Array Value) (w:World),(Instr.makeFunc fn first cap).run Tryz.prog w= .ok (.func fn first cap) w:=fun _ _ _ _=>rfl
 have H:=aB (aA h (aA hon hask))
 clear h hon hask
 obtain⟨W1,hW1⟩:∃ W1,((w.alloc (.cells #[.pointer (some ⟨db,0,none⟩)] 24)).alloc (.cells #[.string s] 9)).alloc (.cells #[.string t] 9)=W1:=⟨_,rfl⟩
 have b1:Below w.heap.size w W1:=by rw[← hW1];exact(((Below.refl _ _).alloc (Nat.le_refl _) _).alloc (by simp) _).alloc (by simp;omega) _
 have z1:W1.heap.size=w.heap.size+3:=by rw[← hW1];simp
 have dD:W1.cell? ⟨w.heap.size,0,none⟩=some (.pointer (some ⟨db,0,none⟩)):=by rw[← hW1];simp[go_sem]
 have dN:W1.cell? ⟨w.heap.size+1,0,none⟩=some (.string s):=by rw[← hW1];simp[go_sem]
 have dT:W1.cell? ⟨w.heap.size+2,0,none⟩=some (.string t):=by rw[← hW1];simp[go_sem]
 have on1:OnAt W1 (some ⟨db,0,none⟩) true:= .inr ⟨db,rfl,(b1.cell (p:=⟨db,1,none⟩) hlt).trans c1⟩
 have hr1:RdT (W1.alloc (.cells #[.string s,.string t] 9)) (.slice (some ⟨W1.heap.size,0,none⟩) 2 2) [s,t]:=rdT_two (by simp[go_sem]) (by simp[go_sem]) 2
 have hA:=fN (on1.below ((Below.refl _ _).alloc (Nat.le_refl _) _)) hr1 (by simp) (fun x hx=>by simp only[List.mem_cons,List.not_mem_nil,or_false]at hx;rcases hx with rfl|rfl<;>omega)
 have H1:=aB (aA b1 z1)
 clear on1 hr1 b1 z1
 cases hnm:[s,t].all dG
 · have he:cK true [s,t]=21:=by simp only[cK,hnm];rfl
   rw[he]at hA
   have hres:D.rename s t=(21,D):=by
    unfold Dk.rename
    rw[H.out.2.2,he,if_pos (by decide)]
   rw[hres]
   clear he hres hnm
   go_enter Tryz.func166,Tryz.ntmps166
   go_wp2_with (go_at_call 144;refine hA.mono ?_;rintro e w2 ⟨rfl,hb2⟩;have H2:=aB hb2;clear hb2)
   go_ret
   have hb:Below w.heap.size w w2:=H1.out.1.trans ((((Below.refl _ _).alloc (Nat.le_refl _) _).trans (H2.out.mono (by simp))).mono H1.out.1.size)
   exact⟨rfl,H.out.1.below hb,Tn.ofBelow hb⟩
 · have he:cK true [s,t]=0:=by simp only[cK,hnm];rfl
   rw[he]at hA
   simp only[List.all_cons,List.all_nil,Bool.and_true,Bool.and_eq_true]at hnm
   have hl64:=nm_le hnm.1
   have hl64b:=nm_le hnm.2
   have HE:=aB (aA he (aA hl64 hl64b))
   clear he hnm hl64 hl64b
   go_enter Tryz.func166,Tryz.ntmps166
   go_wp2_with (go_at_call 144;refine hA.mono ?_;rintro e w2 ⟨rfl,hb2⟩;have H2:=aB hb2;clear hb2)
   have hb12:Below w.heap.size w w2:=H1.out.1.trans ((((Below.refl _ _).alloc (Nat.le_refl _) _).trans (H2.out.mono (by simp))).mono H1.out.1.size)
   have hb2':Below W1.heap.size W1 w2:=((Below.refl _ _).alloc (Nat.le_refl _) _).trans (H2.out.mono (by simp))
   have g1:w2.cell? ⟨w.heap.size,0,none⟩=some (.pointer (some ⟨db,0,none⟩)):=(hb2'.cell (p:=⟨w.heap.size,0,none⟩) (by have:=H1.out.2;simp;omega)).trans dD
   have gN:w2.cell? ⟨w.heap.size+1,0,none⟩=some (.string s):=(hb2'.cell (p:=⟨w.heap.size+1,0,none⟩) (by have:=H1.out.2;simp;omega)).trans dN
   have gT:w2.cell? ⟨w.heap.size+2,0,none⟩=some (.string t):=(hb2'.cell (p:=⟨w.heap.size+2,0,none⟩) (by have:=H1.out.2;simp;omega)).trans dT
   have h2:=H.out.1.below hb12
   have g3:=h2.c0
   have hz2:w.heap.size+3≤w2.heap.size:=by have:=hb2'.size;have:=H1.out.2;omega
   have H22:=aB (aA hb12 (aA hb2' (aA h2 hz2)))
   clear dD dN dT hb12 hb2' h2 hA hW1
   have kd1:w2.drew.cell? ⟨w.heap.size,0,none⟩=some (.pointer (some ⟨db,0,none⟩)):=g1
   have kd2:w2.drew.cell? ⟨w.heap.size+1,0,none⟩=some (.string s):=gN
   have kd3:w2.drew.cell? ⟨db,0,none⟩=some (.map (some mb)):=g3
   obtain⟨fd,fs,isb,hx⟩:=flC D s
   have HXC:=aB hx
   clear hx
   have hlk:=kH (H22.out.2.2.1.below (Below.refl _ _).drew) HXC.out
   refine dQ (fun w'=>w'.cell? ⟨w.heap.size,0,none⟩=some (.pointer (some ⟨db,0,none⟩))∧w'.cell? ⟨w.heap.size+1,0,none⟩=some (.string s)∧w'.cell? ⟨db,0,none⟩=some (.map (some mb))∧(Instr.lookup 80 (.map (some mb)) (.string s) true).run Tryz.prog w'= .ok (.tuple #[.agg #[.string fd,.int .i64 (fs:Int)],.bool isb]) w') 11 12 ⟨kd1,kd2,kd3,hlk⟩ (fun hH=>?_)
   refine bU [[0],[1],[2],[3],[4],[5],[6],[7],[8]] hH ?_
   refine bM (i:=9) rfl (fun K hK=>?_)
   go_simp
   have hS3:∀ (x:Obj) (W:World),W=(w2.alloc x).drew→W.cell? ⟨w.heap.size,0,none⟩=some (.pointer (some ⟨db,0,none⟩))∧W.cell? ⟨w.heap.size+1,0,none⟩=some (.string s)∧W.cell? ⟨db,0,none⟩=some (.map (some mb))∧(Instr.lookup 80 (.map (some mb)) (.string s) true).run Tryz.prog W= .ok (.tuple #[.agg #[.string fd,.int .i64 (fs:Int)],.bool isb]) W:=by
    intro x W hW
    subst hW
    have hb:Below w2.heap.size w2 (w2.alloc x).drew:=((Below.refl _ _).alloc (Nat.le_refl _) _).drew
    exact⟨(hb.cell (p:=⟨w.heap.size,0,none⟩) (World.block_lt_of_cell? _ _ g1)).trans g1,(hb.cell (p:=⟨w.heap.size+1,0,none⟩) (World.block_lt_of_cell? _ _ gN)).trans gN,(hb.cell (p:=⟨db,0,none⟩) (World.block_lt_of_cell? _ _ g3)).trans g3,kH (H22.out.2.2.1.below hb) HXC.out⟩
   have HS3:=aB hS3
   clear hS3
   refine bH hK (HS3.out _ _ rfl) ?_
   clear hK K
   intro hH
   refine bM (i:=10) rfl (fun K hK=>?_)
   go_simp
   refine bH hK (HS3.out _ _ rfl) ?_
   clear hK K
   intro hH
   refine eU ?_
   clear hH
   obtain⟨w4,hw4⟩:∃ w4,w4=(w2.alloc (.cells #[.string fd,.int .i64 (fs:Int)] 113)).drew:=⟨_,rfl⟩
   have hb24:Below w2.heap.size w2 w4:=by rw[hw4];exact((Below.refl _ _).alloc (Nat.le_refl _) _).drew
   have q0:w4.cell? ⟨w2.heap.size,0,none⟩=some (.string fd):=by rw[hw4];simp[go_sem]
   have q1:w4.cell? ⟨w2.heap.size,1,none⟩=some (.int .i64 (fs:Int)):=by rw[hw4];simp[go_sem]
   have qf:∀ j,w4.frozen? ⟨w2.heap.size,j,none⟩=false:=fun j=>by rw[hw4];simp[go_sem]
   have qz:w4.heap.size=w2.heap.size+1:=by rw[hw4];simp
   rw[← hw4]
   clear hw4 hlk kd1 kd2 kd3 HS3
   have e1:=(hb24.cell (p:=⟨w.heap.size,0,none⟩) (World.block_lt_of_cell? _ _ g1)).trans g1
   have eN:=(hb24.cell (p:=⟨w.heap.size+1,0,none⟩) (World.block_lt_of_cell? _ _ gN)).trans gN
   have eT:=(hb24.cell (p:=⟨w.heap.size+2,0,none⟩) (World.block_lt_of_cell? _ _ gT)).trans gT
   have hb04:Below w.heap.size w w4:=H22.out.1.trans (hb24.mono H22.out.1.size)
   have e3:=(hb04.cell (p:=⟨db,0,none⟩) hlt).trans H.out.1.c0
   have H4:=aB (aA hb04 (aA (H.out.1.below hb04) (aA q0 (aA q1 (aA qf (aA qz hb24))))))
   clear hb24 hb04 qf qz
   rcases HXC.out with⟨hg,rfl,rfl,rfl⟩|⟨hg,rfl⟩
   · have hres:D.rename s t=(22,D):=by
      unfold Dk.rename
      rw[H.out.2.2,HE.out.1,if_neg (by decide)]
      rw[hg]
     have HR:=aB hres
     clear hres
     go_wp2
     go_ret
     exact⟨by rw[HR.out];rfl,by rw[HR.out];exact H4.out.2.1,Tn.ofBelow H4.out.1⟩
   · have hfs:=H.out.1.ok.syn _ (cG hg)
     simp only at hfs
     have hres:D.rename s t=D.act (fun m=>aG (aW m s) t ⟨fd,fs⟩):=by
      unfold Dk.rename
      rw[H.out.2.2,HE.out.1,if_neg (by decide)]
      rw[hg]
     have HR:=aB hres
     clear hres
     have h4:aF (fun q=>F q∨q=w2.heap.size) w4 db mb D:=H22.out.2.2.1.more (fun q hq=> .inl hq) (fun q hq=>hq.elim .inl (fun e=> .inr (by omega))) (fun q hq=>hq.elim (fun h=>Nat.lt_of_lt_of_le (H22.out.2.2.1.lt q h) (by have:=H4.out.2.2.2.2.2.1;omega)) (fun e=>by have:=H4.out.2.2.2.2.2.1;omega)) H4.out.2.2.2.2.2.2
     have n0:∀ k,¬ aT db mb (w.heap.size+k):=fun k hq=>by
      have:=H.out.1.m.lt
      rcases hq with e|e<;>omega
     have nF:¬ aT db mb w2.heap.size:=fun hq=>by
      have:=H.out.1.m.lt
      have:=H22.out.2.2.2
      rcases hq with e|e<;>omega
     have hd:mC (fun q=>F q∨q=w2.heap.size) (fun _=>False) 251 #[.pointer (some ⟨w.heap.size,0,none⟩),.pointer (some ⟨w.heap.size+1,0,none⟩),.pointer (some ⟨w2.heap.size,0,none⟩),.pointer (some ⟨w.heap.size+2,0,none⟩)] w4 db mb D (fun m=>aG (aW m s) t ⟨fd,fs⟩):=rename1_does e1 eN eT q0 q1 (n0 0) (n0 1) nF (n0 2) HE.out.2.2 hg
     have HD:=aB (aA h4 hd)
     clear h4 hd n0 nF g1 g3 gN gT
     go_wp2_with fail
     refine(iK HD.out.1 H.out.2.1 ha (enters_of Tryz.func251 (by kernel_rfl) rfl) HD.out.2).mono ?_
     rintro e w5 ⟨rfl,hd5,ht5⟩
     have H5:=aB (aA hd5 ht5)
     clear hd5 ht5
     go_wp2
     go_ret
     refine⟨by rw[HR.out];rfl,?_,(Tn.ofBelow H4.out.1).andThen H5.out.2 (fun q hq=>?_)⟩
     · rw[HR.out]
       exact H5.out.1.less (fun q hq=> .inl hq) H.out.1.fd H.out.1.fm
     · rcases hq with hq|hq
       · exact .inl hq
       · exact hq.elim
end
end Go.Proofs.YtpfibkgmfapnjaaGreatDoor
