/- Wal: the walk of mended. -/
import Derived.Test.YtpfibkgmfapnjaaGreatDoorS23
set_option linter.unusedSimpArgs false
set_option linter.unusedVariables false
namespace Go.Proofs.YtpfibkgmfapnjaaGreatDoor
section
open Go.RowKit
variable {G F:Nat→Prop} {w w':World} {lb mp db mb bx nm:Nat} {ms:List (Int×Sg)} {L L':Lg} {D:Dk} {s:ByteArray}
theorem write_on (hon:D.on=true) (hk:(L.write D).1≠20):(L.write D).2.on=true∧(L.write D).2.acts≤D.acts+5:=by
 obtain⟨r1,r2,r3,r4,r5,hc⟩:=wrC L D
 have g1:=jR D hon (bR L.dir)
 rw[hc.h1]at g1
 rw[hc.w]at hk ⊢
 by_cases c1:r1.1≠0∧r1.1≠22
 · rw[if_pos c1]at hk ⊢
   have:=g1.go hk
   exact⟨this.1,by omega⟩
 · rw[if_neg c1]at hk ⊢
   have o1:=g1.go (by omega)
   have g2:=jZ r1.2 o1.1 (bR L.dir)
   rw[hc.h2]at g2
   by_cases c2:r2.1≠0
   · rw[if_pos c2]at hk ⊢
     have:=g2.go hk
     exact⟨this.1,by omega⟩
   · rw[if_neg c2]at hk ⊢
     have o2:=g2.go (by omega)
     have g3:=app_on r2.2 o2.1 (bR L.dir) L.left
     rw[hc.h3]at g3
     by_cases c3:r3.1≠0
     · rw[if_pos c3]at hk ⊢
       have:=g3.go hk
       exact⟨this.1,by omega⟩
     · rw[if_neg c3]at hk ⊢
       have o3:=g3.go (by omega)
       have g4:=sync_on r3.2 o3.1 (bR L.dir)
       rw[hc.h4]at g4
       by_cases c4:r4.1≠0
       · rw[if_pos c4]at hk ⊢
         have:=g4.go hk
         exact⟨this.1,by omega⟩
       · rw[if_neg c4]at hk ⊢
         have o4:=g4.go (by omega)
         have g5:=rename_on r4.2 o4.1 (bR L.dir) (cD L.dir L.last)
         rw[hc.h5]at g5
         have:=g5.go hk
         exact⟨this.1,by omega⟩
theorem eQ.upd (h:eQ G w lb mp db ms L) (ht:Tn (fun q=>q=lb) w w') (c0:w'.cell? ⟨lb,0,none⟩=some (.pointer (some ⟨db,0,none⟩))) (c1:w'.cell? ⟨lb,1,none⟩=some (.string L'.dir)) (c2:w'.cell? ⟨lb,2,none⟩=some (.int .i64 L'.size)) (c3:w'.cell? ⟨lb,3,none⟩=some (.map (some mp)))
 (c4:w'.cell? ⟨lb,4,none⟩=some (.int .i64 L'.op)) (c5:w'.cell? ⟨lb,5,none⟩=some (.int .i64 L'.long)) (c6:w'.cell? ⟨lb,6,none⟩=some (.bool L'.torn)) (c7:w'.cell? ⟨lb,7,none⟩=some (.string L'.left)) (fz:∀ j,w'.frozen? ⟨lb,j,none⟩=false) (hm:L'.m=L.m) (ok:L'.Ok):eQ G w' lb mp db ms L':=
 ⟨c0,c1,c2,c3,c4,c5,c6,c7,fz,h.mpl.tn ht (fun e=>h.ne e.symm),hm.trans h.eq,fun p hp=>ht.row (h.rows p hp) (fun q hq e=>(h.off p hp q hq).1 e),h.sep,h.ne,h.off,h.gl,h.gm,h.gr,fun q hq=>Nat.lt_of_lt_of_le (h.lt q hq) ht.size,ok⟩
theorem aE {w:World} {b i j:Nat} {v u:Value} (h:w.cell? ⟨b,j,none⟩=some u) (hij:i≠j):(w.setCell ⟨b,i,none⟩ v).cell? ⟨b,j,none⟩=some u:=gX h hij
theorem dO.mend (h:dO G w lb mp db L):dO G ((w.setCell ⟨lb,6,none⟩ (.bool false)).setCell ⟨lb,7,none⟩ (.string ⟨#[]⟩)) lb mp db {L with torn:=false,left:=ByteArray.empty}:=by
 obtain⟨ms,h⟩:=h
 refine⟨ms,h.upd ((Tn.setCell (F:=fun q=>q=lb) w ⟨lb,6,none⟩ _ rfl).trans (Tn.setCell (F:=fun q=>q=lb) _ ⟨lb,7,none⟩ _ rfl)) (aE (aE h.c0 (by omega)) (by omega)) (aE (aE h.c1 (by omega)) (by omega)) (aE (aE h.c2 (by omega)) (by omega)) (aE (aE h.c3 (by omega)) (by omega)) (aE (aE h.c4 (by omega)) (by omega)) (aE (aE h.c5 (by omega)) (by omega))
  (aE (World.cell?_setCell_same _ _ _ h.c6) (by omega)) (World.cell?_setCell_same _ _ _ (aE h.c7 (by omega))) (fun j=>by rw[World.frozen?_setCell,World.frozen?_setCell];exact h.fz j) rfl ⟨h.ok.dir,h.ok.key,h.ok.rise,h.ok.few,h.ok.recs,h.ok.op,h.ok.long,by simp,h.ok.size⟩⟩
theorem iU (t:Tn (aT db mb) w w'):Tn (fun q=>aT db mb q∨G q) w w':=t.mono (fun _ h=> .inl h)
def fW (G F:Nat→Prop) (w w':World) (lb mp db mb:Nat) (e:Ending) (r:Int×Dk×Lg):Prop:=
 e= .returned (.int .i64 r.1)∧aF F w' db mb r.2.1∧dO G w' lb mp db r.2.2∧Tn (fun q=>aT db mb q∨G q) w w'
set_option maxRecDepth 100000 in
set_option maxHeartbeats 2000000 in
theorem w_mended (hlo:dO G w lb mp db L) (hd:aF F w db mb D) (hG:∀ q,G q→F q∧¬ aT db mb q) (hon:D.on=true) (ha:D.acts+20≤1000000) {n:Nat} (hn:n<4294967296) (hlast:L.last=(n:Int)):
 Calls Tryz.prog 142 #[.pointer (some ⟨lb,0,none⟩)] w fun e w'=>fW G F w w' lb mp db mb e (L.mended D):=by
 have hlo0:=hlo
 obtain⟨ms,hm⟩:=hlo
 have c6:=hm.c6
 have HL:=aB (aA hlo0 (aA hd (aA hG hm)))
 have hd40:=hm.ok.dir
 by_cases ht:L.torn=true
 · rw[ht]at c6
   obtain⟨r,hr⟩:∃ r,L.write D=r:=⟨_,rfl⟩
   have hw:=w_write hlo0 hd (fun q hq=>(hG q hq).2) hon (by omega) hn hlast
   rw[hr]at hw
   have hwo:=write_on (L:=L) hon
   rw[hr]at hwo
   obtain⟨k,D1⟩:=r
   simp only at hw hwo
   have HT:=aB (aA ht (aA hr hwo))
   have HW:=aB hw
   clear hlo0 hm hd hG ht hr hw hwo
   go_enter Tryz.func142,Tryz.ntmps142
   go_wp2_with fail
   refine HW.out.mono ?_
   rintro e w1 ⟨rfl,hd1,ht1⟩
   have hl1:=HL.out.1.tn ht1 (fun q hq h=>(HL.out.2.2.1 q hq).2 h)
   have H1:=aB (aA hd1 (aA hl1 ht1))
   have q0:w1.cell? ⟨lb,0,none⟩=some (.pointer (some ⟨db,0,none⟩)):=by obtain⟨ms1,hm1⟩:=hl1;exact hm1.c0
   have q1:w1.cell? ⟨lb,1,none⟩=some (.string L.dir):=by obtain⟨ms1,hm1⟩:=hl1;exact hm1.c1
   have f6:w1.frozen? ⟨lb,6,none⟩=false:=by obtain⟨ms1,hm1⟩:=hl1;exact hm1.fz 6
   have f7:w1.frozen? ⟨lb,7,none⟩=false:=by obtain⟨ms1,hm1⟩:=hl1;exact hm1.fz 7
   have q6:w1.cell? ⟨lb,6,none⟩=some (.bool true):=by obtain⟨ms1,hm1⟩:=hl1;rw[← HT.out.1];exact hm1.c6
   have q7:w1.cell? ⟨lb,7,none⟩=some (.string L.left):=by obtain⟨ms1,hm1⟩:=hl1;exact hm1.c7
   have gl:=HL.out.2.2.1 lb HL.out.2.2.2.gl
   clear hd1 hl1 ht1 c6
   by_cases h24:k=24
   · subst h24
     have hon1:=(HT.out.2.2 (by decide)).1
     have ha1:D1.acts<1000000:=by have:=(HT.out.2.2 (by decide)).2;omega
     obtain⟨f,hf⟩:∃ f,D1.remove (bR L.dir)=f:=⟨_,rfl⟩
     have hR:∀ W,aF F W db mb D1→Calls Tryz.prog 159 #[.pointer (some ⟨db,0,none⟩),.string (L.dir++tMend)] W fun e w'=>e= .returned (.int .i64 f.1)∧aF F w' db mb f.2∧Tn (aT db mb) W w':=fun W hW=>by
      have:=fP hW hon1 ha1 (bR L.dir) (by rw[bC,kQ,List.length_append,←bC];simp;omega)
      rw[hf]at this
      exact this
     obtain⟨kf,Df⟩:=f
     simp only at hR
     have hmend:L.mended D=if kf=20 then(20,Df,L)else(24,Df,L):=by
      unfold Lg.mended
      rw[if_neg (by rw[HT.out.1];decide),HT.out.2.1]
      simp only[if_true,hf]
     have HM:=aB hmend
     have HR:=aB hR
     have hdl:=H1.out.1.below (Below.refl _ _).drew
     obtain⟨dir,hdir⟩:∃ dir,L.dir=dir:=⟨_,rfl⟩
     rw[hdir]at q1 hd40 hR
     have HD:=aB (aA hdir (aA hR hdl))
     have a1:¬ 9223372036854775807<dir.size+5:=by omega
     clear hR hmend hf hdir hdl
     go_wp2_with fail
     refine dQ (fun w'=>w'.cell? ⟨lb,0,none⟩=some (.pointer (some ⟨db,0,none⟩))∧w'.cell? ⟨lb,1,none⟩=some (.string dir)) 10 11 ⟨q0,q1⟩ (fun hH=>?_)
     refine bU [[0],[1],[2],[3],[4],[5],[6],[7],[8]] hH ?_
     refine bM (i:=9) rfl (fun K hK=>?_)
     go_simp
     go_at_call 159
     with_reducible refine(HD.out.2.1 _ HD.out.2.2).mono ?_
     rintro e w3 ⟨rfl,hd3,ht3⟩
     have kd3:w3.cell? ⟨lb,0,none⟩=some (.pointer (some ⟨db,0,none⟩))∧w3.cell? ⟨lb,1,none⟩=some (.string dir):=⟨ht3.cell (show w1.drew.cell? _=_ from q0) gl.2,ht3.cell (show w1.drew.cell? _=_ from q1) gl.2⟩
     have H3:=aB (aA hd3 ht3)
     clear hd3 ht3
     refine bH hK kd3 ?_
     clear hK K
     intro hH
     refine eU ?_
     clear hH kd3 q0 q1 q6 q7 f6 f7
     have hlo3:=H1.out.2.1.tn ((Tn.drew (F:=aT db mb) w1).trans H3.out.2) (fun q hq h=>(HL.out.2.2.1 q hq).2 h)
     have ht3:Tn (fun q=>aT db mb q∨G q) w w3:=iU (H1.out.2.2.trans ((Tn.drew w1).trans H3.out.2))
     have HF:=aB (aA hlo3 ht3)
     clear hlo3 ht3
     by_cases h20:kf=20
     · subst h20
       have HM2:Hid (L.mended D=(20,Df,L)):=by unfold Hid;rw[HM.out,if_pos rfl]
       go_wp2
       go_ret
       unfold fW
       rw[HM2.out]
       exact⟨rfl,H3.out.1,HF.out.1,HF.out.2⟩
     · have HM2:Hid (L.mended D=(24,Df,L)):=by unfold Hid;rw[HM.out,if_neg h20]
       have t1:(kf == 20)=false:=by simpa using h20
       clear h20
       go_wp2
       go_ret
       unfold fW
       rw[HM2.out]
       exact⟨rfl,H3.out.1,HF.out.1,HF.out.2⟩
   · have t24:(k == 24)=false:=by simpa using h24
     by_cases h0:k=0
     · subst h0
       have HM2:Hid (L.mended D=(0,D1,{L with torn:=false,left:=ByteArray.empty})):=by
        unfold Hid Lg.mended
        rw[if_neg (by rw[HT.out.1];decide),HT.out.2.1]
        rfl
       clear h24
       go_wp2
       go_ret
       unfold fW
       rw[HM2.out]
       have ht2:Tn (fun q=>q=lb) w1 ((w1.setCell ⟨lb,6,none⟩ (.bool false)).setCell ⟨lb,7,none⟩ (.string ⟨#[]⟩)):=(Tn.setCell (F:=fun q=>q=lb) w1 ⟨lb,6,none⟩ _ rfl).trans (Tn.setCell (F:=fun q=>q=lb) _ ⟨lb,7,none⟩ _ rfl)
       exact⟨rfl,H1.out.1.frame ht2 (fun q _ e=>by subst e;exact⟨gl.1,fun e=>gl.2 (.inl e),fun e=>gl.2 (.inr e)⟩),H1.out.2.1.mend,(iU H1.out.2.2).trans (ht2.mono (fun q e=>by subst e;exact .inr HL.out.2.2.2.gl))⟩
     · have t0:(k == 0)=false:=by simpa using h0
       have HM2:Hid (L.mended D=(k,D1,L)):=by
        unfold Hid Lg.mended
        rw[if_neg (by rw[HT.out.1];decide),HT.out.2.1]
        simp only
        rw[if_neg h24,if_neg h0]
       clear h24 h0
       go_wp2
       go_ret
       unfold fW
       rw[HM2.out]
       exact⟨rfl,H1.out.1,H1.out.2.1,iU H1.out.2.2⟩
 · have ht':L.torn=false:=by simpa using ht
   rw[ht']at c6
   have HM:Hid (L.mended D=(0,D,L)):=by unfold Hid Lg.mended;rw[if_pos ht']
   clear hlo0 hm hd hG ht ht'
   go_enter Tryz.func142,Tryz.ntmps142
   go_wp2
   go_ret
   unfold fW
   rw[HM.out]
   exact⟨rfl,HL.out.2.1,HL.out.1,Tn.refl _ _⟩
end
section
open Go.RowKit
variable {G F:Nat→Prop} {w w':World} {lb mp db mb bx nm:Nat} {ms:List (Int×Sg)} {L L':Lg} {D:Dk} {s:ByteArray}
theorem mended_keep (L:Lg) (D:Dk):(L.mended D).2.2=L∨(L.mended D).2.2={L with torn:=false,left:=ByteArray.empty}:=by
 unfold Lg.mended
 simp only
 split
 · exact .inl rfl
 · split
   · split<;>exact .inl rfl
   · split
     · exact .inr rfl
     · exact .inl rfl
theorem mended_on (hon:D.on=true) (hk:(L.mended D).1=0):(L.mended D).2.1.on=true∧(L.mended D).2.1.acts≤D.acts+6:=by
 unfold Lg.mended at hk ⊢
 by_cases h1:L.torn=false
 · rw[if_pos h1];exact⟨hon,by show D.acts≤_;omega⟩
 · rw[if_neg h1]at hk ⊢
   simp only at hk ⊢
   by_cases h24:(L.write D).1=24
   · rw[if_pos h24]at hk
     split at hk<;>simp at hk
   · rw[if_neg h24]at hk ⊢
     by_cases h0:(L.write D).1=0
     · rw[if_pos h0]at hk ⊢
       have:=write_on (L:=L) hon (by omega)
       exact⟨this.1,Nat.le_trans this.2 (by omega)⟩
     · rw[if_neg h0]at hk
       exact absurd hk h0
theorem jP {L:Lg} (h:L.dir.size≤40) (n:Int):(cD L.dir n).size≤140737488351232:=by
 unfold cD
 rw[bC,cN,List.length_append,List.length_append,hexF_len,←bC]
 simp
 omega
set_option maxRecDepth 100000 in
set_option maxHeartbeats 2000000 in
theorem w_sync (hlo:dO G w lb mp db L) (hd:aF F w db mb D) (hG:∀ q,G q→¬ aT db mb q) (hon:D.on=true) (ha:D.acts<1000000):
 Calls Tryz.prog 48 #[.pointer (some ⟨lb,0,none⟩)] w fun e w'=>e= .returned (.int .i64 (L.sync D).1)∧aF F w' db mb (L.sync D).2∧Tn (aT db mb) w w':=by
 have hnone:=w_none hlo
 have hlo0:=hlo
 obtain⟨ms,hm⟩:=hlo
 have c0:=hm.c0
 have c1:=hm.c1
 have c4:=hm.c4
 have hd40:=hm.ok.dir
 have hop:=hm.ok.op
 obtain⟨n,hn⟩:∃ n:Nat,L.op=(n:Int):=⟨L.op.toNat,by omega⟩
 rw[hn]at c4 hop
 have HL:=aB (aA hlo0 (aA hd (aA hG hm)))
 clear hlo0 hm hd hG
 rcases Nat.eq_zero_or_pos n with h0|h0
 · subst h0
   have HS:Hid (L.sync D=(0,D)):=by unfold Hid Lg.sync;rw[if_pos (by rw[hn];rfl)]
   clear hn
   go_enter Tryz.func48,Tryz.ntmps48
   go_wp2_with (go_at_call 156;go_loud (refine hnone.mono ?_);rintro e w2 ⟨rfl,rfl⟩)
   go_ret
   rw[HS.out]
   exact⟨rfl,HL.out.2.1,Tn.refl _ _⟩
 · have HS:Hid (L.sync D=D.sync (aV L.dir n)):=by unfold Hid Lg.sync;rw[if_neg (by rw[hn];omega),hn];rfl
   have t0:((n:Int) == 0)=false:=beq_eq_false_iff_ne.2 (by omega)
   have hsz:=jP hd40 (n:Int)
   have hsz2:(aV L.dir n).size≤140737488351232:=hsz
   obtain⟨dir,hdir⟩:∃ dir,L.dir=dir:=⟨_,rfl⟩
   rw[hdir]at c1 hd40 hsz2
   have HD:=aB hdir
   have gl:=HL.out.2.2.1 lb HL.out.2.2.2.gl
   clear hn hdir hsz
   go_enter Tryz.func48,Tryz.ntmps48
   go_wp2_with (go_at_call 156;go_loud (refine hnone.mono ?_);rintro e w2 ⟨rfl,rfl⟩)
   clear hnone
   refine dQ (fun w'=>w'.cell? ⟨lb,0,none⟩=some (.pointer (some ⟨db,0,none⟩))∧w'.cell? ⟨lb,4,none⟩=some (.int .i64 (n:Int))) 11 12 ⟨c0,c4⟩ (fun hH=>?_)
   refine bU [[0],[1],[2],[3],[4],[5],[6],[7],[8]] hH ?_
   refine bM (i:=9) rfl (fun K hK=>?_)
   go_simp
   go_at_call 158
   have c1d:w.drew.cell? ⟨lb,1,none⟩=some (.string dir):=c1
   with_reducible refine(w_name (lb:=lb) hd40 n (by omega) c1d).mono ?_
   rintro e w2 ⟨rfl,hb2⟩
   have hb02:=(Below.refl _ _).drew.trans hb2
   have kd2:=aA ((hb2.cell (p:=⟨lb,0,none⟩) (World.block_lt_of_cell? _ _ c0)).trans c0) ((hb2.cell (p:=⟨lb,4,none⟩) (World.block_lt_of_cell? _ _ c4)).trans c4)
   have hd2:=HL.out.2.1.below hb02
   have H2:=aB (aA hb02 hd2)
   obtain⟨sg,hsg⟩:∃ sg,aV dir n=sg:=⟨_,rfl⟩
   rw[hsg]at hsz2
   have HG:=aB hsg
   rw[hsg]
   clear hb2 hb02 hd2 hsg
   refine bH hK kd2 ?_
   clear hK K
   intro hH
   refine bM (i:=10) rfl (fun K hK=>?_)
   go_simp
   go_at_call 157
   with_reducible refine(sync_any H2.out.2 hon ha sg hsz2).mono ?_
   rintro e w3 ⟨rfl,hd3,ht3⟩
   have kd3:=aA (ht3.cell kd2.1 gl) (ht3.cell kd2.2 gl)
   have H3:=aB (aA hd3 ht3)
   clear hd3 ht3
   refine bH hK kd3 ?_
   clear hK K
   intro hH
   refine eU ?_
   clear hH kd3 kd2 c0 c1 c4
   go_wp2_with fail
   go_ret
   rw[HS.out,HD.out,HG.out]
   exact⟨rfl,H3.out.1,(Tn.ofBelow H2.out.1).trans H3.out.2⟩
theorem dO.close (h:dO G w lb mp db L):dO G ((w.setCell ⟨lb,4,none⟩ (.int .i64 0)).setCell ⟨lb,5,none⟩ (.int .i64 0)) lb mp db {L with op:=0,long:=0}:=by
 obtain⟨ms,h⟩:=h
 refine⟨ms,h.upd ((Tn.setCell (F:=fun q=>q=lb) w ⟨lb,4,none⟩ _ rfl).trans (Tn.setCell (F:=fun q=>q=lb) _ ⟨lb,5,none⟩ _ rfl)) (aE (aE h.c0 (by omega)) (by omega)) (aE (aE h.c1 (by omega)) (by omega)) (aE (aE h.c2 (by omega)) (by omega)) (aE (aE h.c3 (by omega)) (by omega))
  (aE (World.cell?_setCell_same _ _ _ h.c4) (by omega)) (World.cell?_setCell_same _ _ _ (aE h.c5 (by omega))) (aE (aE h.c6 (by omega)) (by omega)) (aE (aE h.c7 (by omega)) (by omega)) (fun j=>by rw[World.frozen?_setCell,World.frozen?_setCell];exact h.fz j) rfl ⟨h.ok.dir,h.ok.key,h.ok.rise,h.ok.few,h.ok.recs,⟨Int.le_refl _,(by decide:(0:Int)≤4294967295)⟩,⟨Int.le_refl _,(by decide:(0:Int)≤1048576)⟩,h.ok.left,h.ok.size⟩⟩
set_option maxRecDepth 100000 in
set_option maxHeartbeats 2000000 in
theorem w_rotate (hlo:dO G w lb mp db L) (hd:aF F w db mb D) (hG:∀ q,G q→F q∧¬ aT db mb q) (hon:D.on=true) (ha:D.acts+40≤1000000) {n:Nat} (hn:n<4294967296) (hlast:L.last=(n:Int)):
 Calls Tryz.prog 56 #[.pointer (some ⟨lb,0,none⟩)] w fun e w'=>fW G F w w' lb mp db mb e (L.rotate D):=by
 have hnone:=w_none hlo
 have hm:=w_mended hlo hd hG hon (by omega) hn hlast
 have hmo:=mended_on (L:=L) hon
 obtain⟨a,hA⟩:∃ a,L.mended D=a:=⟨_,rfl⟩
 rw[hA]at hm hmo
 have hgl:G lb:=by obtain⟨ms,h⟩:=hlo;exact h.gl
 obtain⟨k,D1,L1⟩:=a
 have HA:=aB (aA hA (aA hG (aA hmo hgl)))
 have HM:=aB hm
 clear hlo hd hG hA hm hmo hgl
 go_enter Tryz.func56,Tryz.ntmps56
 go_wp2_with (go_at_call 156;go_loud (refine hnone.mono ?_);rintro e w2 ⟨rfl,rfl⟩)
 refine HM.out.mono ?_
 rintro e w1 ⟨rfl,hd1,hl1,ht1⟩
 simp only at hd1 hl1
 clear hnone
 by_cases h0:k=0
 · subst h0
   have hmo:=HA.out.2.2.1 rfl
   have hs:=w_sync hl1 hd1 (fun q hq=>(HA.out.2.1 q hq).2) hmo.1 (by omega)
   obtain⟨sr,hsr⟩:∃ sr,L1.sync D1=sr:=⟨_,rfl⟩
   rw[hsr]at hs
   obtain⟨k2,D2⟩:=sr
   have H1:=aB (aA hl1 (aA ht1 hsr))
   have HS:=aB hs
   clear hd1 hl1 ht1 hsr hs hmo
   go_wp2_with fail
   refine HS.out.mono ?_
   rintro e w2 ⟨rfl,hd2,ht2⟩
   have hl2:=H1.out.1.tn ht2 (fun q hq h=>(HA.out.2.1 q hq).2 h)
   have f4:w2.frozen? ⟨lb,4,none⟩=false:=by obtain⟨ms1,hm1⟩:=hl2;exact hm1.fz 4
   have f5:w2.frozen? ⟨lb,5,none⟩=false:=by obtain⟨ms1,hm1⟩:=hl2;exact hm1.fz 5
   have q4:w2.cell? ⟨lb,4,none⟩=some (.int .i64 L1.op):=by obtain⟨ms1,hm1⟩:=hl2;exact hm1.c4
   have q5:w2.cell? ⟨lb,5,none⟩=some (.int .i64 L1.long):=by obtain⟨ms1,hm1⟩:=hl2;exact hm1.c5
   have H2:=aB (aA hd2 (aA hl2 ht2))
   clear hd2 hl2 ht2
   by_cases h2:k2=0
   · subst h2
     have HR:Hid (L.rotate D=(0,D2,{L1 with op:=0,long:=0})):=by
      unfold Hid Lg.rotate
      rw[HA.out.1]
      simp only
      rw[if_neg (by decide),H1.out.2.2]
      rfl
     go_wp2
     go_ret
     unfold fW
     rw[HR.out]
     have ht3:Tn (fun q=>q=lb) w2 ((w2.setCell ⟨lb,4,none⟩ (.int .i64 0)).setCell ⟨lb,5,none⟩ (.int .i64 0)):=(Tn.setCell (F:=fun q=>q=lb) w2 ⟨lb,4,none⟩ _ rfl).trans (Tn.setCell (F:=fun q=>q=lb) _ ⟨lb,5,none⟩ _ rfl)
     have gl:=HA.out.2.1 lb HA.out.2.2.2
     exact⟨rfl,H2.out.1.frame ht3 (fun q _ e=>by subst e;exact⟨gl.1,fun e=>gl.2 (.inl e),fun e=>gl.2 (.inr e)⟩),H2.out.2.1.close,(H1.out.2.1.trans (iU H2.out.2.2)).trans (ht3.mono (fun q e=>by subst e;exact .inr HA.out.2.2.2))⟩
   · have t2:(k2 != 0)=true:=by simpa using h2
     have HR:Hid (L.rotate D=(k2,D2,L1)):=by
      unfold Hid Lg.rotate
      rw[HA.out.1]
      simp only
      rw[if_neg (by decide),H1.out.2.2]
      simp only
      rw[if_pos h2]
     clear h2
     go_wp2
     go_ret
     unfold fW
     rw[HR.out]
     exact⟨rfl,H2.out.1,H2.out.2.1,H1.out.2.1.trans (iU H2.out.2.2)⟩
 · have t0:(k != 0)=true:=by simpa using h0
   have HR:Hid (L.rotate D=(k,D1,L1)):=by
    unfold Hid Lg.rotate
    rw[HA.out.1]
    simp only
    rw[if_pos h0]
   have H1:=aB (aA hd1 (aA hl1 ht1))
   clear h0 hd1 hl1 ht1
   go_wp2
   go_ret
   unfold fW
   rw[HR.out]
   exact⟨rfl,H1.out.1,H1.out.2.1,H1.out.2.2⟩
end
section
open Go.RowKit
variable {G F H:Nat→Prop} {w w':World} {lb mp db mb bx nm:Nat} {ms:List (Int×Sg)} {L L':Lg} {D:Dk} {s:ByteArray}
theorem FzAt.widen {F':Nat→Prop} {z:Option Fz} {p:Value} (h:FzAt F w z p) (ht:Tn H w w') (hH:∀ q,q<w.heap.size→H q→F q) (hF:∀ q,F' q→F q∨w.heap.size≤q):FzAt F' w' z p:=by
 cases z with
 |none=>exact h
 |some z=>
  obtain⟨fb,v,hp,hf,hlt,c0,c1,c2,a,c,hx,hr⟩:=h
  have hg:¬ H fb:=fun hg=>hf (hH fb hlt hg)
  refine⟨fb,v,hp,fun h=>(hF fb h).elim hf (fun h=>by omega),Nat.lt_of_lt_of_le hlt ht.size,ht.cell c0 hg,ht.cell c1 hg,ht.cell c2 hg,a,c,hx,hr.imp id ?_⟩
  rintro⟨b,off,ha,hfb,hbl,hc⟩
  exact⟨b,off,ha,fun h=>(hF b h).elim hfb (fun h=>by omega),Nat.lt_of_lt_of_le hbl ht.size,fun i hi=>ht.cell (hc i hi) (fun hg=>hfb (hH b hbl hg))⟩
theorem aF.widen {F':Nat→Prop} (h:aF F w db mb D) (ht:Tn H w w') (hH:∀ q,q<w.heap.size→H q→F q∧¬ aT db mb q) (hF:∀ q,F q→F' q) (hw:∀ q,F' q→F q∨w.heap.size≤q) (hl:∀ q,F' q→q<w'.heap.size):aF F' w' db mb D:=by
 have h1:=h.frame ht (fun q hq hh=>⟨(hH q hq hh).1,fun e=>(hH q hq hh).2 (.inl e),fun e=>(hH q hq hh).2 (.inr e)⟩)
 obtain⟨p,hp,hz⟩:=h.c3
 have hd:¬ H db:=fun hh=>(hH db h.ltd hh).2 (.inl rfl)
 exact⟨h1.c0,h1.c1,h1.c2,⟨p,ht.cell hp hd,hz.widen ht (fun q hq hh=>(hH q hq hh).1) hw⟩,h1.c4,h1.m,h1.fz,h1.ok,h1.ne,hF _ h1.fd,hF _ h1.fm,hl⟩
theorem gO (h:L.Ok):∀ p∈L.m,p.1≤L.last:=by
 intro p hp
 unfold Lg.last
 have hr:=h.rise
 obtain⟨x,hx⟩:∃ x,L.m.map (·.1)=x:=⟨_,rfl⟩
 have hpx:p.1∈x:=by rw[← hx];exact List.mem_map_of_mem hp
 rw[hx]at hr ⊢
 rcases List.eq_nil_or_concat x with rfl|⟨l,y,rfl⟩
 · simp at hpx
 · rw[List.concat_eq_append]at hpx hr ⊢
   rw[List.getLastD_concat]
   rcases List.mem_append.1 hpx with h1|h1
   · have:=(List.pairwise_append.1 hr).2.2 _ h1 y (by simp)
     omega
   · simp at h1;omega
theorem eQ.key_ne (h:eQ G w lb mp db ms L) {k:Int} (hk:L.last<k):∀ p∈ms,p.1≠k:=by
 intro p hp e
 have:=gO h.ok (p.1,p.2.rs) (by rw[h.eq];exact List.mem_map.2 ⟨p,hp,rfl⟩)
 simp only at this
 omega
theorem eQ.grow (h:eQ G w lb mp db ms L) {k:Int} (hk:L.last<k) (hk1:1≤k∧k≤4294967295) (hfew:L.m.length<20000) (hm:aL ckZ cvS w' mp (aG ms k ⟨none,0,[]⟩)) (ht:Tn (fun q=>q=mp) w w'):
 eQ G w' lb mp db (ms++[(k,⟨none,0,[]⟩)]) {L with m:=aG L.m k []}:=by
 have hne:=h.key_ne hk
 have hl:=World.block_lt_of_cell? _ _ h.c0
 have hn:¬ lb=mp:=h.ne
 rw[fM hne]at hm
 have hmL:aG L.m k []=L.m++[(k,[])]:=fM (fun p hp e=>by have:=gO h.ok p hp;omega)
 refine⟨ht.cell h.c0 hn,ht.cell h.c1 hn,ht.cell h.c2 hn,ht.cell h.c3 hn,ht.cell h.c4 hn,ht.cell h.c5 hn,ht.cell h.c6 hn,ht.cell h.c7 hn,fun j=>(ht.frozen (p:=⟨lb,j,none⟩) hl hn).trans (h.fz j),hm,?_,?_,?_,h.ne,?_,h.gl,h.gm,?_,fun q hq=>Nat.lt_of_lt_of_le (h.lt q hq) ht.size,?_⟩
 · show aG L.m k []=_
   rw[hmL,List.map_append,←h.eq]
   rfl
 · intro p hp
   rcases List.mem_append.1 hp with hp|hp
   · exact ht.row (h.rows p hp) (fun q hq e=>(h.off p hp q hq).2 e)
   · simp at hp;subst hp;exact World.ownsRow_nil _ _ _ _
 · rw[List.pairwise_append]
   refine⟨h.sep,List.pairwise_singleton _ _,fun p _ p' hp' q _ e=>?_⟩
   simp at hp'
   subst hp'
   cases e
 · intro p hp q hq
   rcases List.mem_append.1 hp with hp|hp
   · exact h.off p hp q hq
   · simp at hp;subst hp;cases hq
 · intro p hp q hq
   rcases List.mem_append.1 hp with hp|hp
   · exact h.gr p hp q hq
   · simp at hp;subst hp;cases hq
 · refine⟨h.ok.dir,?_,?_,?_,?_,h.ok.op,h.ok.long,h.ok.left,h.ok.size⟩
   · show ∀ p∈aG L.m k [],_
     rw[hmL]
     intro p hp
     rcases List.mem_append.1 hp with hp|hp
     · exact h.ok.key p hp
     · simp at hp;subst hp;exact hk1
   · show((aG L.m k []).map (·.1)).Pairwise _
     rw[hmL,List.map_append,List.pairwise_append]
     refine⟨h.ok.rise,List.pairwise_singleton _ _,fun a ha b hb=>?_⟩
     obtain⟨p,hp,rfl⟩:=List.mem_map.1 ha
     simp at hb
     subst hb
     have:=gO h.ok p hp
     omega
   · show(aG L.m k []).length≤20000
     rw[hmL,List.length_append]
     simp
     omega
   · show ∀ p∈aG L.m k [],_
     rw[hmL]
     intro p hp
     rcases List.mem_append.1 hp with hp|hp
     · exact h.ok.recs p hp
     · simp at hp;subst hp;simp
theorem eQ.opened (h:eQ G w lb mp db ms L) {k:Int} (hk:0≤k∧k≤4294967295):eQ G ((w.setCell ⟨lb,4,none⟩ (.int .i64 k)).setCell ⟨lb,5,none⟩ (.int .i64 0)) lb mp db ms {L with op:=k,long:=0}:=
 h.upd ((Tn.setCell (F:=fun q=>q=lb) w ⟨lb,4,none⟩ _ rfl).trans (Tn.setCell (F:=fun q=>q=lb) _ ⟨lb,5,none⟩ _ rfl)) (aE (aE h.c0 (by omega)) (by omega)) (aE (aE h.c1 (by omega)) (by omega)) (aE (aE h.c2 (by omega)) (by omega)) (aE (aE h.c3 (by omega)) (by omega))
  (aE (World.cell?_setCell_same _ _ _ h.c4) (by omega)) (World.cell?_setCell_same _ _ _ (aE h.c5 (by omega))) (aE (aE h.c6 (by omega)) (by omega)) (aE (aE h.c7 (by omega)) (by omega)) (fun j=>by rw[World.frozen?_setCell,World.frozen?_setCell];exact h.fz j) rfl ⟨h.ok.dir,h.ok.key,h.ok.rise,h.ok.few,h.ok.recs,hk,⟨Int.le_refl _,(by decide:(0:Int)≤1048576)⟩,h.ok.left,h.ok.size⟩
set_option maxRecDepth 100000 in
set_option maxHeartbeats 2000000 in
theorem w_begin (hlo:dO G w lb mp db L) (hd:aF F w db mb D) (hG:∀ q,G q→F q∧¬ aT db mb q) (hon:D.on=true) (ha:D.acts<1000000) {n:Nat} (hn:n<4294967296) (hlast:L.last=(n:Int)) (hfew:L.m.length<20000):
 Calls Tryz.prog 241 #[.pointer (some ⟨lb,0,none⟩)] w fun e w'=>fW G F w w' lb mp db mb e (L.begin_ D):=by
 have hl:=last_any hlo
 obtain⟨v,hv⟩:∃ v:Int,v=(n:Int):=⟨_,rfl⟩
 have hv0:0≤v:=by omega
 have hv1:v≤4294967295:=by omega
 have hlv:L.last=v:=by rw[hlast,hv]
 rw[hlv]at hl
 have HV:=aB (aA hv hn)
 have hlo0:=hlo
 obtain⟨ms,hm⟩:=hlo
 have hd40:=hm.ok.dir
 have HL:=aB (aA hlo0 (aA hd (aA hG (aA hm (aA hlv hfew)))))
 have HLA:=aB hl
 clear hlo0 hm hd hG hl hlast hn hv hlv hfew
 go_enter Tryz.func241,Tryz.ntmps241
 go_wp2_with fail
 refine HLA.out.mono ?_
 rintro e w1 ⟨rfl,hb1⟩
 have hm1:=HL.out.2.2.2.1.tn (Tn.ofBelow (F:=fun _=>False) hb1) (fun _ _ h=>h)
 have hd1:=HL.out.2.1.below hb1
 have c0:=hm1.c0
 have c1:=hm1.c1
 have c3:=hm1.c3
 have H1:=aB (aA hm1 (aA hd1 hb1))
 clear hm1 hd1 hb1
 by_cases hbig:4294967295<v+1
 · have t1:(4294967295:Int)<v+1:=by omega
   have HB:Hid (L.begin_ D=(24,D,L)):=by unfold Hid Lg.begin_;rw[if_pos (by rw[HL.out.2.2.2.2.1];omega)]
   clear c0 c1 c3 hbig
   go_wp2
   go_ret
   unfold fW
   rw[HB.out]
   exact⟨rfl,H1.out.2.1,⟨_,H1.out.1⟩,Tn.ofBelow H1.out.2.2⟩
 · have t1:v+1≤4294967295:=by omega
   have HNN:=aB hbig
   have hz:=jP hd40 (v+1)
   have hseg:cD L.dir (v+1)=aV L.dir (n+1):=by rw[HV.out.1];rfl
   rw[hseg]at hz
   obtain⟨dir,hdir⟩:∃ dir,L.dir=dir:=⟨_,rfl⟩
   rw[hdir]at c1 hd40 hz hseg
   obtain⟨r,hr⟩:∃ r,D.create (aV dir (n+1))=r:=⟨_,rfl⟩
   obtain⟨k,D2⟩:=r
   have hB:L.begin_ D=if k≠0 then(k,D2,L)else(0,D2,{L with m:=aG L.m (v+1) [],op:=v+1,long:=0}):=by
    unfold Lg.begin_
    rw[HL.out.2.2.2.2.1,if_neg (by omega),hdir,hseg]
    simp only[hr]
   have gl:=HL.out.2.2.1 lb HL.out.2.2.2.1.gl
   have gm:=HL.out.2.2.1 mp HL.out.2.2.2.1.gm
   have HB:=aB (aA hB (aA hr hdir))
   have e1:v+1=((n+1:Nat):Int):=by rw[HV.out.1];omega
   have hnm:∀ W,W.cell? ⟨lb,1,none⟩=some (.string dir)→Calls Tryz.prog 158 #[.pointer (some ⟨lb,0,none⟩),.int .i64 (v+1)] W fun e w'=>e= .returned (.string (aV dir (n+1)))∧Below W.heap.size W w':=fun W hW=>by
    rw[e1];exact w_name (lb:=lb) hd40 (n+1) (by have:=HV.out.1;omega) hW
   have HNM:=aB hnm
   clear hB hr hdir hbig hseg e1 hnm
   go_wp2_with fail
   refine dQ (fun w'=>w'.cell? ⟨lb,0,none⟩=some (.pointer (some ⟨db,0,none⟩))) 8 9 c0 (fun hH=>?_)
   refine bU [[0],[1],[2],[3],[4],[5]] hH ?_
   refine bM (i:=6) rfl (fun K hK=>?_)
   go_simp
   go_at_call 158
   have c1d:w1.drew.cell? ⟨lb,1,none⟩=some (.string dir):=c1
   with_reducible refine(HNM.out _ c1d).mono ?_
   rintro e w2 ⟨rfl,hb2⟩
   have hb12:=(Below.refl _ _).drew.trans hb2
   have kd2:=(hb2.cell (p:=⟨lb,0,none⟩) (World.block_lt_of_cell? _ _ c0)).trans c0
   have hd2:=H1.out.2.1.below hb12
   have hm2:=H1.out.1.tn (Tn.ofBelow (F:=fun _=>False) hb12) (fun _ _ h=>h)
   have H2:=aB (aA hb12 (aA hd2 hm2))
   obtain⟨sg,hsg⟩:∃ sg,aV dir (n+1)=sg:=⟨_,rfl⟩
   rw[hsg]at hz
   have HG:=aB hsg
   rw[hsg]
   clear hb2 hb12 hd2 hm2 hsg
   refine bH hK kd2 ?_
   clear hK K
   intro hH
   refine bM (i:=7) rfl (fun K hK=>?_)
   go_simp
   go_at_call 161
   with_reducible refine(kV H2.out.2.1 hon ha sg hz).mono ?_
   rw[← HG.out,HB.out.2.1]
   rintro e w3 ⟨rfl,hd3,ht3⟩
   simp only at hd3
   have kd3:=ht3.cell kd2 gl.2
   have hm3:=H2.out.2.2.tn ht3 (fun q hq h=>(HL.out.2.2.1 q hq).2 h)
   have q3:=hm3.c3
   have H3:=aB (aA hd3 (aA ht3 hm3))
   clear hd3 ht3 hm3
   refine bH hK kd3 ?_
   clear hK K
   intro hH
   refine eU ?_
   clear hH kd3 kd2 c0 c1 c3
   have ht03:Tn (fun q=>aT db mb q∨G q) w w3:=iU ((Tn.ofBelow (H1.out.2.2.trans (H2.out.1.mono H1.out.2.2.size))).trans H3.out.2.1)
   have HT:=aB ht03
   clear ht03
   by_cases h0:k=0
   · subst h0
     have hmp:=H3.out.2.2.mpl
     have HB2:Hid (L.begin_ D=(0,D2,{L with m:=aG L.m (v+1) [],op:=v+1,long:=0})):=by unfold Hid;rw[HB.out.1];rfl
     obtain⟨w4,hrun,hm4,ht4,hz4⟩:=aL.put hmp keyZ und_seg (v+1) ⟨none,0,[]⟩
     have hrun':(Instr.mapUpdate tSeg (.map (some mp)) (.int .i64 (v+1)) (.slice none 0 0)).run Tryz.prog w3= .ok () w4:=hrun
     have hlt3:=World.block_lt_of_cell? _ _ q3
     have f4:w4.frozen? ⟨lb,4,none⟩=false:=(ht4.frozen (p:=⟨lb,4,none⟩) hlt3 H3.out.2.2.ne).trans (H3.out.2.2.fz 4)
     have f5:w4.frozen? ⟨lb,5,none⟩=false:=(ht4.frozen (p:=⟨lb,5,none⟩) hlt3 H3.out.2.2.ne).trans (H3.out.2.2.fz 5)
     have q44:=ht4.cell H3.out.2.2.c4 H3.out.2.2.ne
     have q45:=ht4.cell H3.out.2.2.c5 H3.out.2.2.ne
     have H4:=aB (aA hm4 (aA ht4 hz4))
     clear hm4 ht4 hz4 hmp hrun
     go_wp2
     go_ret
     unfold fW
     rw[HB2.out]
     have hl0:=HL.out.2.2.2.2.1
     have hbg:=HNN.out
     have hgr:=H3.out.2.2.grow (k:=v+1) (by rw[hl0];omega) ⟨by omega,by omega⟩ HL.out.2.2.2.2.2 H4.out.1 H4.out.2.1
     have hop:=hgr.opened (k:=v+1) ⟨by omega,by omega⟩
     have ht5:Tn (fun q=>q=lb∨q=mp) w3 ((w4.setCell ⟨lb,4,none⟩ (.int .i64 (v+1))).setCell ⟨lb,5,none⟩ (.int .i64 0)):=((H4.out.2.1.mono (fun q e=> .inr e)).trans (Tn.setCell (F:=fun q=>q=lb∨q=mp) w4 ⟨lb,4,none⟩ _ (.inl rfl))).trans (Tn.setCell (F:=fun q=>q=lb∨q=mp) _ ⟨lb,5,none⟩ _ (.inl rfl))
     refine⟨rfl,H3.out.1.frame ht5 (fun q _ e=>?_),⟨_,hop⟩,HT.out.trans (ht5.mono (fun q e=>?_))⟩
     · rcases e with rfl|rfl
       · exact⟨gl.1,fun e=>gl.2 (.inl e),fun e=>gl.2 (.inr e)⟩
       · exact⟨gm.1,fun e=>gm.2 (.inl e),fun e=>gm.2 (.inr e)⟩
     · rcases e with rfl|rfl
       · exact .inr HL.out.2.2.2.1.gl
       · exact .inr HL.out.2.2.2.1.gm
   · have t0:(k != 0)=true:=by simpa using h0
     have HB2:Hid (L.begin_ D=(k,D2,L)):=by unfold Hid;rw[HB.out.1,if_pos h0]
     clear h0
     go_wp2
     go_ret
     unfold fW
     rw[HB2.out]
     exact⟨rfl,H3.out.1,⟨_,H3.out.2.2⟩,HT.out⟩
end
end Go.Proofs.YtpfibkgmfapnjaaGreatDoor
