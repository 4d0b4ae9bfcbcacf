/- Disk: what acts do to the files: Append, Sync, Rename, Remove. -/
import Derived.Test.YtpfibkgmfapnjaaGreatDoorS18
set_option linter.unusedSimpArgs false
set_option linter.unusedVariables false
namespace Go.Proofs.YtpfibkgmfapnjaaGreatDoor
section
open Go.RowKit
variable {F G:Nat→Prop} {w w':World} {db mb:Nat} {D D':Dk}
theorem set_ok (h:D.Ok) {s:ByteArray} {f:Fl} (hg:(aH D.m s).isSome=true) (hs:s.size≤64) (hf:f.syn≤f.data.size∧f.data.size≤1048576):({D with m:=aG D.m s f}:Dk).Ok:=
 h.set hs hf (Nat.le_trans (Nat.le_of_eq (cA.2 hg)) h.few)
theorem aF.less (h:aF G w db mb D) (hF:∀ q,F q→G q) (hd:F db) (hm:F mb):aF F w db mb D:=by
 obtain⟨p,hp,hz⟩:=h.c3
 refine⟨h.c0,h.c1,h.c2,⟨p,hp,?_⟩,h.c4,h.m,h.fz,h.ok,h.ne,hd,hm,fun q hq=>h.lt q (hF q hq)⟩
 cases hzz:D.fuse with
 |none=>rw[hzz]at hz;exact hz
 |some z=>
  rw[hzz]at hz
  obtain⟨fb,v,e,hf,hlt,c0,c1,c2,a,c,hx,hr⟩:=hz
  refine⟨fb,v,e,fun hg=>hf (hF _ hg),hlt,c0,c1,c2,a,c,hx,hr.imp id ?_⟩
  rintro⟨b,off,ha,hbf,hbl,hc⟩
  exact⟨b,off,ha,fun hg=>hbf (hF _ hg),hbl,hc⟩
set_option maxRecDepth 100000 in
set_option maxHeartbeats 1000000 in
theorem iI {bF bA bD bN:Nat} {s:ByteArray} {fd:ByteArray} {fs:Nat} {data:ByteArray} (hD:w.cell? ⟨bD,0,none⟩=some (.pointer (some ⟨db,0,none⟩))) (hN:w.cell? ⟨bN,0,none⟩=some (.string s))
 (hF0:w.cell? ⟨bF,0,none⟩=some (.string fd)) (hF1:w.cell? ⟨bF,1,none⟩=some (.int .i64 (fs:Int))) (hFz:∀ j,w.frozen? ⟨bF,j,none⟩=false) (hA:w.cell? ⟨bA,0,none⟩=some (.string data))
 (nD:¬ aT db mb bD) (nN:¬ aT db mb bN) (nF:¬ aT db mb bF) (nA:¬ aT db mb bA) (d1:bD≠bF) (d2:bN≠bF) (hnF:F bF) (hs:s.size≤64) (hg:(aH D.m s).isSome=true) (hfok:fs≤(fd++data).size∧(fd++data).size≤1048576):
 mC F (fun q=>q=bF) 250 #[.pointer (some ⟨bF,0,none⟩),.pointer (some ⟨bA,0,none⟩),.pointer (some ⟨bD,0,none⟩),.pointer (some ⟨bN,0,none⟩)] w db mb D (fun m=>aG m s ⟨fd++data,fs⟩):=by
 intro w1 D1 h1 ht1 hm1
 have k1:=ht1.cell hD nD
 have k2:=ht1.cell hN nN
 have k3:=h1.c0
 have k4:=ht1.cell hF0 nF
 have k5:=ht1.cell hF1 nF
 have k6:=(ht1.frozen (p:=⟨bF,0,none⟩) (World.block_lt_of_cell? _ _ hF0) nF).trans (hFz 0)
 have k7:=(ht1.frozen (p:=⟨bF,1,none⟩) (World.block_lt_of_cell? _ _ hF1) nF).trans (hFz 1)
 have k8:=ht1.cell hA nA
 have d4:db≠bF:=fun e=>nF (.inl e.symm)
 have d5:mb≠bF:=fun e=>nF (.inr e.symm)
 have hsum:fd.size+data.size≤1048576:=by have:=hfok.2;rw[ByteArray.size_append]at this;exact this
 have H:=aB (aA h1 (aA hm1 (aA hs (aA hg (aA hnF hfok)))))
 clear hD hN hF0 hF1 hFz hA ht1 h1 hm1 hs hg nD nN nF nA hnF hfok
 go_enter Tryz.func250,Tryz.ntmps250
 go_wp2_with fail
 obtain⟨w2,hw2⟩:∃ w2,w1.setCell ⟨bF,0,none⟩ (.string (fd++data))=w2:=⟨_,rfl⟩
 rw[hw2]
 have ht2:Tn (fun q=>q=bF) w1 w2:=by rw[← hw2];exact Tn.setCell _ _ _ rfl
 have e4:w2.cell? ⟨bF,0,none⟩=some (.string (fd++data)):=by rw[← hw2];exact World.cell?_setCell_same _ _ _ k4
 have e5:w2.cell? ⟨bF,1,none⟩=some (.int .i64 (fs:Int)):=by rw[← hw2];exact cH k5 (by omega)
 have e1:=ht2.cell k1 d1
 have e2:=ht2.cell k2 d2
 have e3:=ht2.cell k3 d4
 clear hw2 k1 k2 k3 k4 k5 k6 k7 k8
 have kd1:w2.drew.cell? ⟨bD,0,none⟩=some (.pointer (some ⟨db,0,none⟩)):=e1
 have kd2:w2.drew.cell? ⟨bN,0,none⟩=some (.string s):=e2
 have kd3:w2.drew.cell? ⟨db,0,none⟩=some (.map (some mb)):=e3
 have kd4:w2.drew.cell? ⟨bF,0,none⟩=some (.string (fd++data)):=e4
 have kd5:w2.drew.cell? ⟨bF,1,none⟩=some (.int .i64 (fs:Int)):=e5
 refine dQ (fun w'=>w'.cell? ⟨bD,0,none⟩=some (.pointer (some ⟨db,0,none⟩))∧w'.cell? ⟨bN,0,none⟩=some (.string s)∧w'.cell? ⟨db,0,none⟩=some (.map (some mb))∧w'.cell? ⟨bF,0,none⟩=some (.string (fd++data))∧w'.cell? ⟨bF,1,none⟩=some (.int .i64 (fs:Int))) 6 7 ⟨kd1,kd2,kd3,kd4,kd5⟩ (fun hH=>?_)
 refine bU [[0],[1],[2],[3],[4],[5]] hH ?_
 refine tkL rfl (fun K hK=>?_)
 have hb2:Tn (fun q=>q=bF) w1 w2.drew:=ht2.trans (Tn.drew _)
 have hd2:aF F w2.drew db mb D1:=H.out.1.frame hb2 (fun q _ hq=>by subst hq;exact⟨H.out.2.2.2.2.1,d4.symm,d5.symm⟩)
 refine dS rfl _ _ _ rfl keyN und_map rfl hd2.m s rfl ⟨fd++data,fs⟩ rfl ?_
 intro w3 hm3 ht3 hz3
 refine hK.out _ _ (tkD ?_)
 clear hK K hH
 have hfin:=hd2.setM ht3 hm3 (set_ok hd2.ok (by rw[H.out.2.1];exact H.out.2.2.2.1) H.out.2.2.1 H.out.2.2.2.2.2)
 have htt:Tn (fun q=>aT db mb q∨q=bF) w1 w3:=(hb2.mono (fun q hq=>Or.inr hq)).trans (ht3.mono (fun q hq=>Or.inl (Or.inr hq)))
 have HF:=aB (aA hfin htt)
 clear hfin htt hm3 ht3 hz3 hd2 hb2 e1 e2 e3 e4 e5 kd1 kd2 kd3 kd4 kd5 ht2
 go_wp2_with fail
 go_end0
 exact⟨rfl,HF.out.1,HF.out.2⟩
set_option maxRecDepth 100000 in
set_option maxHeartbeats 1000000 in
theorem sync1_does {bF bD bN:Nat} {s:ByteArray} {fd:ByteArray} {fs:Nat} (hD:w.cell? ⟨bD,0,none⟩=some (.pointer (some ⟨db,0,none⟩))) (hN:w.cell? ⟨bN,0,none⟩=some (.string s))
 (hF0:w.cell? ⟨bF,0,none⟩=some (.string fd)) (hF1:w.cell? ⟨bF,1,none⟩=some (.int .i64 (fs:Int))) (hFz:∀ j,w.frozen? ⟨bF,j,none⟩=false)
 (nD:¬ aT db mb bD) (nN:¬ aT db mb bN) (nF:¬ aT db mb bF) (d1:bD≠bF) (d2:bN≠bF) (hnF:F bF) (hs:s.size≤64) (hg:(aH D.m s).isSome=true) (hfok:fd.size≤fd.size∧fd.size≤1048576):
 mC F (fun q=>q=bF) 245 #[.pointer (some ⟨bF,0,none⟩),.pointer (some ⟨bD,0,none⟩),.pointer (some ⟨bN,0,none⟩)] w db mb D (fun m=>aG m s ⟨fd,fd.size⟩):=by
 intro w1 D1 h1 ht1 hm1
 have k1:=ht1.cell hD nD
 have k2:=ht1.cell hN nN
 have k3:=h1.c0
 have k4:=ht1.cell hF0 nF
 have k5:=ht1.cell hF1 nF
 have k6:=(ht1.frozen (p:=⟨bF,0,none⟩) (World.block_lt_of_cell? _ _ hF0) nF).trans (hFz 0)
 have k7:=(ht1.frozen (p:=⟨bF,1,none⟩) (World.block_lt_of_cell? _ _ hF1) nF).trans (hFz 1)
 have d4:db≠bF:=fun e=>nF (.inl e.symm)
 have d5:mb≠bF:=fun e=>nF (.inr e.symm)
 have H:=aB (aA h1 (aA hm1 (aA hs (aA hg (aA hnF hfok)))))
 clear hD hN hF0 hF1 hFz ht1 h1 hm1 hs hg nD nN nF hnF hfok
 go_enter Tryz.func245,Tryz.ntmps245
 go_wp2_with fail
 obtain⟨w2,hw2⟩:∃ w2,w1.setCell ⟨bF,1,none⟩ (.int .i64 (fd.size:Int))=w2:=⟨_,rfl⟩
 rw[hw2]
 have ht2:Tn (fun q=>q=bF) w1 w2:=by rw[← hw2];exact Tn.setCell _ _ _ rfl
 have e4:w2.cell? ⟨bF,0,none⟩=some (.string fd):=by rw[← hw2];exact cH k4 (by omega)
 have e5:w2.cell? ⟨bF,1,none⟩=some (.int .i64 (fd.size:Int)):=by rw[← hw2];exact World.cell?_setCell_same _ _ _ k5
 have e1:=ht2.cell k1 d1
 have e2:=ht2.cell k2 d2
 have e3:=ht2.cell k3 d4
 clear hw2 k1 k2 k3 k4 k5 k6 k7
 have kd1:w2.drew.cell? ⟨bD,0,none⟩=some (.pointer (some ⟨db,0,none⟩)):=e1
 have kd2:w2.drew.cell? ⟨bN,0,none⟩=some (.string s):=e2
 have kd3:w2.drew.cell? ⟨db,0,none⟩=some (.map (some mb)):=e3
 have kd4:w2.drew.cell? ⟨bF,0,none⟩=some (.string fd):=e4
 have kd5:w2.drew.cell? ⟨bF,1,none⟩=some (.int .i64 (fd.size:Int)):=e5
 refine dQ (fun w'=>w'.cell? ⟨bD,0,none⟩=some (.pointer (some ⟨db,0,none⟩))∧w'.cell? ⟨bN,0,none⟩=some (.string s)∧w'.cell? ⟨db,0,none⟩=some (.map (some mb))∧w'.cell? ⟨bF,0,none⟩=some (.string fd)∧w'.cell? ⟨bF,1,none⟩=some (.int .i64 (fd.size:Int))) 6 7 ⟨kd1,kd2,kd3,kd4,kd5⟩ (fun hH=>?_)
 refine bU [[0],[1],[2],[3],[4],[5]] hH ?_
 refine tkL rfl (fun K hK=>?_)
 have hb2:Tn (fun q=>q=bF) w1 w2.drew:=ht2.trans (Tn.drew _)
 have hd2:aF F w2.drew db mb D1:=H.out.1.frame hb2 (fun q _ hq=>by subst hq;exact⟨H.out.2.2.2.2.1,d4.symm,d5.symm⟩)
 refine dS rfl _ _ _ rfl keyN und_map rfl hd2.m s rfl ⟨fd,fd.size⟩ rfl ?_
 intro w3 hm3 ht3 hz3
 refine hK.out _ _ (tkD ?_)
 clear hK K hH
 have hfin:=hd2.setM ht3 hm3 (set_ok hd2.ok (by rw[H.out.2.1];exact H.out.2.2.2.1) H.out.2.2.1 H.out.2.2.2.2.2)
 have htt:Tn (fun q=>aT db mb q∨q=bF) w1 w3:=(hb2.mono (fun q hq=>Or.inr hq)).trans (ht3.mono (fun q hq=>Or.inl (Or.inr hq)))
 have HF:=aB (aA hfin htt)
 clear hfin htt hm3 ht3 hz3 hd2 hb2 e1 e2 e3 e4 e5 kd1 kd2 kd3 kd4 kd5 ht2
 go_wp2_with fail
 go_end0
 exact⟨rfl,HF.out.1,HF.out.2⟩
set_option maxRecDepth 100000 in
set_option maxHeartbeats 1000000 in
theorem remove1_does {bD bN:Nat} {s:ByteArray} (hD:w.cell? ⟨bD,0,none⟩=some (.pointer (some ⟨db,0,none⟩))) (hN:w.cell? ⟨bN,0,none⟩=some (.string s)) (nD:¬ aT db mb bD) (nN:¬ aT db mb bN):
 mC F (fun _=>False) 247 #[.pointer (some ⟨bD,0,none⟩),.pointer (some ⟨bN,0,none⟩)] w db mb D (fun m=>aW m s):=by
 intro w1 D1 h1 ht1 hm1
 have k1:=ht1.cell hD nD
 have k2:=ht1.cell hN nN
 have k3:=h1.c0
 have H:=aB (aA h1 hm1)
 clear hD hN ht1 h1 hm1 nD nN
 go_enter Tryz.func247,Tryz.ntmps247
 go_wp2_with fail
 have kd1:w1.drew.cell? ⟨bD,0,none⟩=some (.pointer (some ⟨db,0,none⟩)):=k1
 have kd2:w1.drew.cell? ⟨bN,0,none⟩=some (.string s):=k2
 have kd3:w1.drew.cell? ⟨db,0,none⟩=some (.map (some mb)):=k3
 refine dQ (fun w'=>w'.cell? ⟨bD,0,none⟩=some (.pointer (some ⟨db,0,none⟩))∧w'.cell? ⟨bN,0,none⟩=some (.string s)∧w'.cell? ⟨db,0,none⟩=some (.map (some mb))) 5 6 ⟨kd1,kd2,kd3⟩ (fun hH=>?_)
 refine bU [[0,1,2,3],[1,2,3],[2,3],[3],[4]] hH ?_
 refine tkL rfl (fun K hK=>?_)
 have hb2:Below w1.heap.size w1 w1.drew:=(Below.refl _ _).drew
 have hd2:aF F w1.drew db mb D1:=H.out.1.below hb2
 refine step_del rfl _ _ rfl keyN und_map (ob:=some mb) rfl hd2.m s rfl ?_
 intro w3 hm3 ht3 hz3
 refine hK.out _ _ (tkD ?_)
 clear hK K hH
 have ht3':Tn (fun q=>q=mb) w1.drew w3:=ht3.mono (fun q hq=>(Option.some.inj hq).symm)
 have hfin:=hd2.setM ht3' hm3 hd2.ok.del
 have HF:=aB (aA hfin ((Tn.ofBelow (F:=fun q=>aT db mb q∨False) hb2).trans (ht3'.mono (fun q hq=> .inl (.inr hq)))))
 clear hfin hm3 ht3 ht3' hz3 hd2 hb2 kd1 kd2 kd3 k1 k2 k3
 go_wp2_with fail
 go_end0
 exact⟨rfl,HF.out.1,by simpa using HF.out.2⟩
set_option maxRecDepth 100000 in
set_option maxHeartbeats 1000000 in
theorem rename1_does {bD bN bF bT:Nat} {s t:ByteArray} {fd:ByteArray} {fs:Nat} (hD:w.cell? ⟨bD,0,none⟩=some (.pointer (some ⟨db,0,none⟩))) (hN:w.cell? ⟨bN,0,none⟩=some (.string s)) (hT:w.cell? ⟨bT,0,none⟩=some (.string t))
 (hF0:w.cell? ⟨bF,0,none⟩=some (.string fd)) (hF1:w.cell? ⟨bF,1,none⟩=some (.int .i64 (fs:Int))) (nD:¬ aT db mb bD) (nN:¬ aT db mb bN) (nF:¬ aT db mb bF) (nT:¬ aT db mb bT) (hs:t.size≤64) (hg:aH D.m s=some ⟨fd,fs⟩):
 mC F (fun _=>False) 251 #[.pointer (some ⟨bD,0,none⟩),.pointer (some ⟨bN,0,none⟩),.pointer (some ⟨bF,0,none⟩),.pointer (some ⟨bT,0,none⟩)] w db mb D (fun m=>aG (aW m s) t ⟨fd,fs⟩):=by
 intro w1 D1 h1 ht1 hm1
 have k1:=ht1.cell hD nD
 have k2:=ht1.cell hN nN
 have k3:=h1.c0
 have k4:=ht1.cell hF0 nF
 have k5:=ht1.cell hF1 nF
 have k6:=ht1.cell hT nT
 have hs9:t.size≤140737488351232:=by omega
 have H:=aB (aA h1 (aA hm1 (aA hs (aA hg (aA nD (aA nF nT))))))
 have hdm:db≠mb:=h1.ne
 have n1:bD≠mb:=fun e=>nD (.inr e)
 have n4:bF≠mb:=fun e=>nF (.inr e)
 have n6:bT≠mb:=fun e=>nT (.inr e)
 clear hD hN hF0 hF1 hT ht1 h1 hm1 nD nN nF nT hg hs
 go_enter Tryz.func251,Tryz.ntmps251
 go_wp2_with fail
 have kd1:w1.drew.cell? ⟨bD,0,none⟩=some (.pointer (some ⟨db,0,none⟩)):=k1
 have kd2:w1.drew.cell? ⟨bN,0,none⟩=some (.string s):=k2
 have kd3:w1.drew.cell? ⟨db,0,none⟩=some (.map (some mb)):=k3
 refine dQ (fun w'=>w'.cell? ⟨bD,0,none⟩=some (.pointer (some ⟨db,0,none⟩))∧w'.cell? ⟨bN,0,none⟩=some (.string s)∧w'.cell? ⟨db,0,none⟩=some (.map (some mb))) 5 6 ⟨kd1,kd2,kd3⟩ (fun hH=>?_)
 refine bU [[0,1,2,3],[1,2,3],[2,3],[3],[4]] hH ?_
 refine tkL rfl (fun K hK=>?_)
 have hb2:Below w1.heap.size w1 w1.drew:=(Below.refl _ _).drew
 have hd2:aF F w1.drew db mb D1:=H.out.1.below hb2
 refine step_del rfl _ _ rfl keyN und_map (ob:=some mb) rfl hd2.m s rfl ?_
 intro w3 hm3 ht3 hz3
 refine hK.out _ _ (tkD ?_)
 clear hK K hH
 have ht3':Tn (fun q=>q=mb) w1.drew w3:=ht3.mono (fun q hq=>(Option.some.inj hq).symm)
 have hd3:=hd2.setM ht3' hm3 hd2.ok.del
 have htt:Tn (fun q=>aT db mb q∨False) w1 w3:=(Tn.ofBelow (F:=fun q=>aT db mb q∨False) hb2).trans (ht3'.mono (fun q hq=> .inl (.inr hq)))
 have f1:=ht3'.cell (show w1.drew.cell? ⟨bD,0,none⟩=_ from k1) n1
 have f3:=ht3'.cell (show w1.drew.cell? ⟨db,0,none⟩=_ from k3) hdm
 have f4:=ht3'.cell (show w1.drew.cell? ⟨bF,0,none⟩=_ from k4) n4
 have f5:=ht3'.cell (show w1.drew.cell? ⟨bF,1,none⟩=_ from k5) n4
 have f6:=ht3'.cell (show w1.drew.cell? ⟨bT,0,none⟩=_ from k6) n6
 have H3:=aB (aA hd3 htt)
 clear hd3 htt hm3 ht3 ht3' hz3 hd2 hb2 kd1 kd2 kd3 k1 k2 k3 k4 k5 k6
 go_wp2_with fail
 have kd1:w3.drew.cell? ⟨bD,0,none⟩=some (.pointer (some ⟨db,0,none⟩)):=f1
 have kd3:w3.drew.cell? ⟨db,0,none⟩=some (.map (some mb)):=f3
 have kd4:w3.drew.cell? ⟨bF,0,none⟩=some (.string fd):=f4
 have kd5:w3.drew.cell? ⟨bF,1,none⟩=some (.int .i64 (fs:Int)):=f5
 have kd6:w3.drew.cell? ⟨bT,0,none⟩=some (.string t):=f6
 refine dQ (fun w'=>w'.cell? ⟨bD,0,none⟩=some (.pointer (some ⟨db,0,none⟩))∧w'.cell? ⟨db,0,none⟩=some (.map (some mb))∧w'.cell? ⟨bF,0,none⟩=some (.string fd)∧w'.cell? ⟨bF,1,none⟩=some (.int .i64 (fs:Int))∧w'.cell? ⟨bT,0,none⟩=some (.string t)) 7 8 ⟨kd1,kd3,kd4,kd5,kd6⟩ (fun hH=>?_)
 refine bU [[0],[1],[2],[3],[4],[6]] hH ?_
 refine bM (i:=5) rfl (fun K hK=>?_)
 go_simp
 go_at_call 31
 refine(cB _ t hs9).mono ?_
 rintro e w4 ⟨rfl,hb4⟩
 have e1:=(hb4.cell (p:=⟨bD,0,none⟩) (World.block_lt_of_cell? _ _ kd1)).trans kd1
 have e3:=(hb4.cell (p:=⟨db,0,none⟩) (World.block_lt_of_cell? _ _ kd3)).trans kd3
 have e4:=(hb4.cell (p:=⟨bF,0,none⟩) (World.block_lt_of_cell? _ _ kd4)).trans kd4
 have e5:=(hb4.cell (p:=⟨bF,1,none⟩) (World.block_lt_of_cell? _ _ kd5)).trans kd5
 have e6:=(hb4.cell (p:=⟨bT,0,none⟩) (World.block_lt_of_cell? _ _ kd6)).trans kd6
 have HB:=aB (show Below w3.heap.size w3 w4 from(Below.refl _ _).drew.trans hb4)
 clear hb4
 refine bH hK ⟨e1,e3,e4,e5,e6⟩ ?_
 clear hK K
 intro hH
 have hd4:=H3.out.1.below HB.out
 refine tkL rfl (fun K hK=>?_)
 refine dS rfl _ _ _ rfl keyN und_map rfl hd4.m t rfl ⟨fd,fs⟩ rfl ?_
 intro w5 hm5 ht5 hz5
 refine hK.out _ _ (tkD ?_)
 clear hK K hH
 have hgm:(s,(⟨fd,fs⟩:Fl))∈D1.m:=cG (by rw[H.out.2.1];exact H.out.2.2.2.1)
 have hlen:(aG (aW D1.m s) t ⟨fd,fs⟩).length≤20000:=by
  have h1:(aG (aW D1.m s) t ⟨fd,fs⟩).length≤(aW D1.m s).length+1:=cA.1
  have h2:(aW D1.m s).length<D1.m.length:=by
   unfold aW
   rcases Nat.lt_or_ge (D1.m.filter (fun p=>decide (p.1≠s))).length D1.m.length with h|h
   · exact h
   · have h3:=List.length_filter_eq_length_iff.1 (Nat.le_antisymm (List.length_filter_le _ _) h) _ hgm
     simp at h3
  have:=H.out.1.ok.few
  omega
 have hfok:=H.out.1.ok.syn _ hgm
 have hfin:=hd4.setM ht5 hm5 (hd4.ok.set H.out.2.2.1 hfok hlen)
 have HF:=aB (aA hfin (H3.out.2.trans ((Tn.ofBelow (F:=fun q=>aT db mb q∨False) HB.out).trans (ht5.mono (fun q hq=> .inl (.inr hq))))))
 clear hfin hm5 ht5 hz5 hd4 e1 e3 e4 e5 e6 kd1 kd3 kd4 kd5 kd6 f1 f3 f4 f5 f6 hgm hlen hfok
 go_wp2_with fail
 go_end0
 exact⟨rfl,HF.out.1,by simpa using HF.out.2⟩
end
section
open Go.RowKit
variable {F G:Nat→Prop} {w w':World} {db mb:Nat} {D D':Dk}
theorem used_app (a b:Fm):used (a++b)=used a+used b:=by unfold used;rw[List.map_append,List.sum_append]
theorem used_cons (p:ByteArray×Fl) (b:Fm):used (p::b)=p.2.data.size+used b:=by unfold used;rw[List.map_cons,List.sum_cons]
theorem used_le (m:Fm) (h:∀ p∈m,p.2.data.size≤1048576):used m≤m.length*1048576:=by
 induction m with
 |nil=>simp[used]
 |cons p m ih=>
  rw[used_cons,List.length_cons,Nat.add_mul]
  have:=ih (fun q hq=>h q (List.mem_cons_of_mem _ hq))
  have:=h p List.mem_cons_self
  omega
set_option maxRecDepth 100000 in
set_option maxHeartbeats 1000000 in
theorem used_any (h:aF F w db mb D):Calls Tryz.prog 249 #[.pointer (some ⟨db,0,none⟩)] w fun e w'=>e= .returned (.int .i64 (used D.m:Int))∧Below w.heap.size w w':=by
 have c0:=h.c0
 have hub:used D.m≤20971520000:=by
  have h1:=used_le D.m (fun p hp=>(h.ok.syn p hp).2)
  have h2:=h.ok.few
  have h3:D.m.length*1048576≤20000*1048576:=Nat.mul_le_mul_right _ h2
  omega
 have H:=aB h.m
 obtain⟨m,hm⟩:∃ m,D.m=m:=⟨_,rfl⟩
 rw[hm]at H hub ⊢
 clear h hm
 go_enter Tryz.func249,Tryz.ntmps249
 go_wp2_with (at_range;refine jM rfl _ rfl und_map rfl (show eS kW cvF _ (some mb) m from H.out) ?_;intro w1 hr hb1 hz1;have H1:=aB (aA hr hb1);clear hr hb1)
 go_frame
 go_loopw [3,5] (fun nv _ wr=>∃ todo acc,gZ kW cvF wr (some mb) w.heap.size m todo∧used m=acc+used todo∧nv= .int .i64 ((acc:Nat):Int)∧Below w.heap.size w wr) (fun _ _ wr=>leftN wr (some mb) w.heap.size)
 case atStart=>exact⟨m,0,H1.out.1,by omega,rfl,H1.out.2⟩
 case round=>
  obtain⟨todo,acc,hr,hacc,rfl,hb⟩:=hrel
  have HR:=aB (aA hr (aA hacc hb))
  have hal:acc≤20971520000:=by omega
  have hrl:=hr.lt
  clear hr hacc hb
  go_wp2_with (at_next;refine lA rfl _ rfl rfl HR.out.1 ?_ ?_)
  · intro h0
    have HE:=aB h0
    clear h0
    go_wp2
    go_ret
    refine⟨?_,HR.out.2.2⟩
    have h5:=HR.out.2.1
    rw[HE.out]at h5
    have h6:acc=used m:=by simp[used]at h5 ⊢;omega
    rw[← h6]
    rfl
  · intro pre nm f post w2 htd hr2 ht2 hz2 hen
    obtain⟨fd,fs⟩:=f
    try simp only[kW,cvF]at hen
    have hsz:used todo=fd.size+used (pre++post):=by rw[htd,used_app,used_cons,used_app];show used pre+(fd.size+used post)=_;omega
    have hle:fd.size+acc≤20971520000:=by have:=HR.out.2.1;omega
    have hb2:Below w.heap.size w w2:=HR.out.2.2.trans ((ht2.below HR.out.2.2.size (fun k hk=>by omega)))
    have H2:=aB (aA hr2 (aA hsz (aA hb2 htd)))
    clear hr2 hsz hb2 htd ht2
    try simp only[kW,cvF]
    go_wp2
    go_roundw
    case rel=>
     have hb3:Below w2.heap.size w2 (w2.alloc (.cells #[.string fd,.int .i64 (fs:Int)] 113)):=(Below.refl _ _).alloc (Nat.le_refl _) _
     refine⟨pre++post,acc+fd.size,H2.out.1.tn (Tn.ofBelow (F:=fun _=>False) hb3) (fun _ _ e=>e) (fun e=>e),?_,by go_num,H2.out.2.2.1.trans (hb3.mono H2.out.2.2.1.size)⟩
     have:=HR.out.2.1
     have:=H2.out.2.1
     omega
    case measure=>
     have hb3:Below w2.heap.size w2 (w2.alloc (.cells #[.string fd,.int .i64 (fs:Int)] 113)):=(Below.refl _ _).alloc (Nat.le_refl _) _
     have h7:=H2.out.1.tn (Tn.ofBelow (F:=fun _=>False) hb3) (fun _ _ e=>e) (fun e=>e)
     rw[h7.left,HR.out.1.left,H2.out.2.2.2]
     simp
end
end Go.Proofs.YtpfibkgmfapnjaaGreatDoor
