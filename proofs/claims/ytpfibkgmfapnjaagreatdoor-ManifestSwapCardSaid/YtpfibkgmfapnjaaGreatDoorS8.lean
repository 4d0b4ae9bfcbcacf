/- Manifest: a file with texts of its own. -/
import Derived.Test.YtpfibkgmfapnjaaGreatDoorS5
import Derived.Test.YtpfibkgmfapnjaaGreatDoorS7
set_option linter.unusedSimpArgs false
set_option linter.unusedVariables false
namespace Go.Proofs.YtpfibkgmfapnjaaGreatDoor
section
open Go.RowKit
theorem eX {fn:Func} {t:Tmp} {ty:TypeId} (h:fn.results= #[.cell t ty]) {tmps:Array Value} {P:Program} {w:World} {ad:Addr} {v:Value} (ht:tmps.getD t undef= .pointer (some ad)) (hl:(loadVar ty ad).run P w= .ok v w):
 (results fn tmps).run P w= .ok v w:=by
 have ht':tmps[t]?.getD undef= .pointer (some ad):=by simpa using ht
 simp[results,h,ht',asAddr,hl,Result.andThen]
theorem load_fi {w:World} {b:Nat} {x:Fi} (h0:w.cell? ⟨b,0,none⟩=some (.int .i64 x.lv)) (h1:w.cell? ⟨b,1,none⟩=some (.int .i64 x.nu)) (h2:w.cell? ⟨b,2,none⟩=some (.int .i64 x.ct)) (h3:w.cell? ⟨b,3,none⟩=some (.int .i64 x.sz)) (h4:w.cell? ⟨b,4,none⟩=some (.string x.f)) (h5:w.cell? ⟨b,5,none⟩=some (.string x.l)):
 (loadVar 79 ⟨b,0,none⟩).run Tryz.prog w= .ok (.agg #[.int .i64 x.lv,.int .i64 x.nu,.int .i64 x.ct,.int .i64 x.sz,.string x.f,.string x.l]) w:=by
 simp[go_sem,loadVar,h0,h1,h2,h3,h4,h5]
theorem aC {w:World} {b i j:Nat} {v u:Value} (h:w.cell? ⟨b,j,none⟩=some u) (hij:i≠j):(w.setCell ⟨b,i,none⟩ v).cell? ⟨b,j,none⟩=some u:=by
 rw[World.cell?_setCell_other _ _ _ _ (by intro e;injection e with _ e2;exact hij e2)]
 exact h
theorem bZ {w:World} {b c i j:Nat} {v u:Value} (h:w.cell? ⟨b,j,none⟩=some u) (hbc:c≠b):(w.setCell ⟨c,i,none⟩ v).cell? ⟨b,j,none⟩=some u:=by
 rw[World.cell?_setCell_other _ _ _ _ (by intro e;injection e with e1 _;exact hbc e1)]
 exact h
structure CpS (w w':World) (x:Fi):Prop where
 a0:w'.cell? ⟨w.heap.size,0,none⟩=some (.int .i64 x.lv)
 a1:w'.cell? ⟨w.heap.size,1,none⟩=some (.int .i64 x.nu)
 a2:w'.cell? ⟨w.heap.size,2,none⟩=some (.int .i64 x.ct)
 a3:w'.cell? ⟨w.heap.size,3,none⟩=some (.int .i64 x.sz)
 a4:w'.cell? ⟨w.heap.size,4,none⟩=some (.string x.f)
 a5:w'.cell? ⟨w.heap.size,5,none⟩=some (.string x.l)
 fz:∀ j,w'.frozen? ⟨w.heap.size,j,none⟩=false
 r0:w'.cell? ⟨w.heap.size+1,0,none⟩=some (.int .i64 0)
 r1:w'.cell? ⟨w.heap.size+1,1,none⟩=some (.int .i64 0)
 r2:w'.cell? ⟨w.heap.size+1,2,none⟩=some (.int .i64 0)
 r3:w'.cell? ⟨w.heap.size+1,3,none⟩=some (.int .i64 0)
 r4:w'.cell? ⟨w.heap.size+1,4,none⟩=some (.string ⟨#[]⟩)
 r5:w'.cell? ⟨w.heap.size+1,5,none⟩=some (.string ⟨#[]⟩)
 rf:∀ j,w'.frozen? ⟨w.heap.size+1,j,none⟩=false
 bel:Below w.heap.size w w'
 sz:w.heap.size+2≤w'.heap.size
theorem CpS.below {w w' w'':World} {x:Fi} (h:CpS w w' x) (hb:Below w'.heap.size w' w''):CpS w w'' x:=
 ⟨(hb.cell (p:=⟨w.heap.size,0,none⟩) (by have:=h.sz;show w.heap.size<_;omega)).trans h.a0,(hb.cell (p:=⟨w.heap.size,1,none⟩) (by have:=h.sz;show w.heap.size<_;omega)).trans h.a1,(hb.cell (p:=⟨w.heap.size,2,none⟩) (by have:=h.sz;show w.heap.size<_;omega)).trans h.a2,(hb.cell (p:=⟨w.heap.size,3,none⟩) (by have:=h.sz;show w.heap.size<_;omega)).trans h.a3,(hb.cell (p:=⟨w.heap.size,4,none⟩) (by have:=h.sz;show w.heap.size<_;omega)).trans h.a4,(hb.cell (p:=⟨w.heap.size,5,none⟩) (by have:=h.sz;show w.heap.size<_;omega)).trans h.a5,fun j=>(hb.frozen (p:=⟨w.heap.size,j,none⟩) (by have:=h.sz;show w.heap.size<_;omega)).trans (h.fz j),(hb.cell (p:=⟨w.heap.size+1,0,none⟩) (by have:=h.sz;show w.heap.size+1<_;omega)).trans h.r0,(hb.cell (p:=⟨w.heap.size+1,1,none⟩) (by have:=h.sz;show w.heap.size+1<_;omega)).trans h.r1,(hb.cell (p:=⟨w.heap.size+1,2,none⟩) (by have:=h.sz;show w.heap.size+1<_;omega)).trans h.r2,(hb.cell (p:=⟨w.heap.size+1,3,none⟩) (by have:=h.sz;show w.heap.size+1<_;omega)).trans h.r3,(hb.cell (p:=⟨w.heap.size+1,4,none⟩) (by have:=h.sz;show w.heap.size+1<_;omega)).trans h.r4,(hb.cell (p:=⟨w.heap.size+1,5,none⟩) (by have:=h.sz;show w.heap.size+1<_;omega)).trans h.r5,fun j=>(hb.frozen (p:=⟨w.heap.size+1,j,none⟩) (by have:=h.sz;show w.heap.size+1<_;omega)).trans (h.rf j),h.bel.trans (hb.mono (by have:=h.sz;omega)),Nat.le_trans h.sz hb.size⟩
theorem CpS.set4 {w w':World} {x:Fi} (h:CpS w w' x):CpS w (w'.setCell ⟨w.heap.size,4,none⟩ (.string x.f)) x:=
 ⟨aC h.a0 (by decide),aC h.a1 (by decide),aC h.a2 (by decide),aC h.a3 (by decide),World.cell?_setCell_same _ _ _ h.a4,aC h.a5 (by decide),fun j=>by rw[World.frozen?_setCell];exact h.fz j,bZ h.r0 (by omega),bZ h.r1 (by omega),bZ h.r2 (by omega),bZ h.r3 (by omega),bZ h.r4 (by omega),bZ h.r5 (by omega),fun j=>by rw[World.frozen?_setCell];exact h.rf j,h.bel.setCell (Nat.le_refl _) _,by rw[World.size_setCell];exact h.sz⟩
theorem CpS.set5 {w w':World} {x:Fi} (h:CpS w w' x):CpS w (w'.setCell ⟨w.heap.size,5,none⟩ (.string x.l)) x:=
 ⟨aC h.a0 (by decide),aC h.a1 (by decide),aC h.a2 (by decide),aC h.a3 (by decide),aC h.a4 (by decide),World.cell?_setCell_same _ _ _ h.a5,fun j=>by rw[World.frozen?_setCell];exact h.fz j,bZ h.r0 (by omega),bZ h.r1 (by omega),bZ h.r2 (by omega),bZ h.r3 (by omega),bZ h.r4 (by omega),bZ h.r5 (by omega),fun j=>by rw[World.frozen?_setCell];exact h.rf j,h.bel.setCell (Nat.le_refl _) _,by rw[World.size_setCell];exact h.sz⟩
set_option maxRecDepth 100000 in
set_option maxHeartbeats 2000000 in
theorem copied_any (x:Fi) (w:World) (hf:x.f.size≤1000000000∧x.l.size≤1000000000):Calls Tryz.prog 210 #[.agg #[.int .i64 x.lv,.int .i64 x.nu,.int .i64 x.ct,.int .i64 x.sz,.string x.f,.string x.l]] w fun e w'=>e= .returned (.agg #[.int .i64 x.lv,.int .i64 x.nu,.int .i64 x.ct,.int .i64 x.sz,.string x.f,.string x.l])∧Below w.heap.size w w':=by
 obtain⟨w2,hw2⟩:∃ w2,w2=(w.alloc (.cells #[.int .i64 x.lv,.int .i64 x.nu,.int .i64 x.ct,.int .i64 x.sz,.string x.f,.string x.l] 79)).alloc (.cells #[.int .i64 0,.int .i64 0,.int .i64 0,.int .i64 0,.string ⟨#[]⟩,.string ⟨#[]⟩] 79):=⟨_,rfl⟩
 have hcs:CpS w w2 x:=by
  rw[hw2]
  refine⟨?_,?_,?_,?_,?_,?_,fun j=>?_,?_,?_,?_,?_,?_,?_,fun j=>?_,((Below.refl _ _).alloc (Nat.le_refl _) _).alloc (by simp) _,by simp⟩
  all_goals simp[go_sem]
 have H2:=aB hcs
 have HF:=aB hf
 clear hcs hf
 go_enter Tryz.func210,Tryz.ntmps210
 go_wp2_with fail
 rw[← hw2]
 clear hw2
 have hd:CpS w w2.drew x:=H2.out.below (Below.refl _ _).drew
 have HD:=aB hd
 clear hd
 have a4:=HD.out.a4
 have a5:=HD.out.a5
 have z4:=HD.out.fz 4
 have z5:=HD.out.fz 5
 refine dQ (fun w'=>w'.cell? ⟨w.heap.size,4,none⟩=some (.string x.f)∧w'.cell? ⟨w.heap.size,5,none⟩=some (.string x.l)) 9 10 ⟨a4,a5⟩ (fun hH=>?_)
 refine bU [[0],[1],[3],[4]] hH ?_
 refine bM (i:=2) rfl (fun K hK=>?_)
 go_simp
 go_at_call 31
 refine(cB _ x.f (by have:=HF.out.1;omega)).mono ?_
 rintro e v3 ⟨rfl,hv3⟩
 have H3:=aB (HD.out.below hv3)
 clear a4 a5 z4 z5
 clear hv3
 have a4:=H3.out.a4
 have a5:=H3.out.a5
 have z4:=H3.out.fz 4
 have z5:=H3.out.fz 5
 refine bH hK ⟨H3.out.a4,H3.out.a5⟩ ?_
 clear hK K
 intro hH
 refine bU [[6]] hH ?_
 refine bM (i:=5) rfl (fun K hK=>?_)
 go_simp
 go_at_call 31
 refine(cB _ x.l (by have:=HF.out.2;omega)).mono ?_
 rintro e v4 ⟨rfl,hv4⟩
 have H4:=aB (H3.out.below hv4)
 clear a4 a5 z4 z5
 clear hv4
 have a4:=H4.out.a4
 have a5:=H4.out.a5
 have z4:=H4.out.fz 4
 have z5:=H4.out.fz 5
 refine bH hK ⟨H4.out.a4,H4.out.a5⟩ ?_
 clear hK K
 intro hH
 refine bM (i:=7) rfl (fun K hK=>?_)
 go_simp
 have H5:=aB H4.out.set4
 clear a4 a5 z4 z5
 obtain⟨v5,hv5⟩:∃ v5,v5=v4.setCell ⟨w.heap.size,4,none⟩ (.string x.f):=⟨_,rfl⟩
 rw[← hv5]at H5 ⊢
 clear hv5
 have a4:=H5.out.a4
 have a5:=H5.out.a5
 have z4:=H5.out.fz 4
 have z5:=H5.out.fz 5
 refine bH hK ⟨H5.out.a4,H5.out.a5⟩ ?_
 clear hK K
 intro hH
 refine bU [[8]] hH ?_
 refine eU ?_
 clear hH
 have H6:=aB H5.out.set5
 clear a4 a5 z4 z5
 obtain⟨w6,hw6⟩:∃ w6,w6=v5.setCell ⟨w.heap.size,5,none⟩ (.string x.l):=⟨_,rfl⟩
 rw[← hw6]at H6 ⊢
 clear hw6
 have a0:=H6.out.a0
 have a1:=H6.out.a1
 have a2:=H6.out.a2
 have a3:=H6.out.a3
 have a4:=H6.out.a4
 have a5:=H6.out.a5
 have r0:=H6.out.r0
 have r1:=H6.out.r1
 have r2:=H6.out.r2
 have r3:=H6.out.r3
 have r4:=H6.out.r4
 have r5:=H6.out.r5
 have y0:=H6.out.rf 0
 have y1:=H6.out.rf 1
 have y2:=H6.out.rf 2
 have y3:=H6.out.rf 3
 have y4:=H6.out.rf 4
 have y5:=H6.out.rf 5
 go_wp2_with fail
 have q0:((((((w6.setCell ⟨w.heap.size+1,0,none⟩ (.int .i64 x.lv)).setCell ⟨w.heap.size+1,1,none⟩ (.int .i64 x.nu)).setCell ⟨w.heap.size+1,2,none⟩ (.int .i64 x.ct)).setCell ⟨w.heap.size+1,3,none⟩ (.int .i64 x.sz)).setCell ⟨w.heap.size+1,4,none⟩ (.string x.f)).setCell ⟨w.heap.size+1,5,none⟩ (.string x.l)).cell? ⟨w.heap.size+1,0,none⟩=some (.int .i64 x.lv):=(aC (aC (aC (aC (aC (World.cell?_setCell_same _ _ _ H6.out.r0) (by decide)) (by decide)) (by decide)) (by decide)) (by decide))
 have q1:((((((w6.setCell ⟨w.heap.size+1,0,none⟩ (.int .i64 x.lv)).setCell ⟨w.heap.size+1,1,none⟩ (.int .i64 x.nu)).setCell ⟨w.heap.size+1,2,none⟩ (.int .i64 x.ct)).setCell ⟨w.heap.size+1,3,none⟩ (.int .i64 x.sz)).setCell ⟨w.heap.size+1,4,none⟩ (.string x.f)).setCell ⟨w.heap.size+1,5,none⟩ (.string x.l)).cell? ⟨w.heap.size+1,1,none⟩=some (.int .i64 x.nu):=(aC (aC (aC (aC (World.cell?_setCell_same _ _ _ (aC H6.out.r1 (by decide))) (by decide)) (by decide)) (by decide)) (by decide))
 have q2:((((((w6.setCell ⟨w.heap.size+1,0,none⟩ (.int .i64 x.lv)).setCell ⟨w.heap.size+1,1,none⟩ (.int .i64 x.nu)).setCell ⟨w.heap.size+1,2,none⟩ (.int .i64 x.ct)).setCell ⟨w.heap.size+1,3,none⟩ (.int .i64 x.sz)).setCell ⟨w.heap.size+1,4,none⟩ (.string x.f)).setCell ⟨w.heap.size+1,5,none⟩ (.string x.l)).cell? ⟨w.heap.size+1,2,none⟩=some (.int .i64 x.ct):=(aC (aC (aC (World.cell?_setCell_same _ _ _ (aC (aC H6.out.r2 (by decide)) (by decide))) (by decide)) (by decide)) (by decide))
 have q3:((((((w6.setCell ⟨w.heap.size+1,0,none⟩ (.int .i64 x.lv)).setCell ⟨w.heap.size+1,1,none⟩ (.int .i64 x.nu)).setCell ⟨w.heap.size+1,2,none⟩ (.int .i64 x.ct)).setCell ⟨w.heap.size+1,3,none⟩ (.int .i64 x.sz)).setCell ⟨w.heap.size+1,4,none⟩ (.string x.f)).setCell ⟨w.heap.size+1,5,none⟩ (.string x.l)).cell? ⟨w.heap.size+1,3,none⟩=some (.int .i64 x.sz):=(aC (aC (World.cell?_setCell_same _ _ _ (aC (aC (aC H6.out.r3 (by decide)) (by decide)) (by decide))) (by decide)) (by decide))
 have q4:((((((w6.setCell ⟨w.heap.size+1,0,none⟩ (.int .i64 x.lv)).setCell ⟨w.heap.size+1,1,none⟩ (.int .i64 x.nu)).setCell ⟨w.heap.size+1,2,none⟩ (.int .i64 x.ct)).setCell ⟨w.heap.size+1,3,none⟩ (.int .i64 x.sz)).setCell ⟨w.heap.size+1,4,none⟩ (.string x.f)).setCell ⟨w.heap.size+1,5,none⟩ (.string x.l)).cell? ⟨w.heap.size+1,4,none⟩=some (.string x.f):=(aC (World.cell?_setCell_same _ _ _ (aC (aC (aC (aC H6.out.r4 (by decide)) (by decide)) (by decide)) (by decide))) (by decide))
 have q5:((((((w6.setCell ⟨w.heap.size+1,0,none⟩ (.int .i64 x.lv)).setCell ⟨w.heap.size+1,1,none⟩ (.int .i64 x.nu)).setCell ⟨w.heap.size+1,2,none⟩ (.int .i64 x.ct)).setCell ⟨w.heap.size+1,3,none⟩ (.int .i64 x.sz)).setCell ⟨w.heap.size+1,4,none⟩ (.string x.f)).setCell ⟨w.heap.size+1,5,none⟩ (.string x.l)).cell? ⟨w.heap.size+1,5,none⟩=some (.string x.l):=(World.cell?_setCell_same _ _ _ (aC (aC (aC (aC (aC H6.out.r5 (by decide)) (by decide)) (by decide)) (by decide)) (by decide)))
 (try simp only[Exit.inBlock,Exit.then])
 exact bodyPost_ret (eX rfl rfl (load_fi q0 q1 q2 q3 q4 q5)) rfl ⟨rfl,((((((H6.out.bel.setCell (Nat.le_add_right _ _) _).setCell (Nat.le_add_right _ _) _).setCell (Nat.le_add_right _ _) _).setCell (Nat.le_add_right _ _) _).setCell (Nat.le_add_right _ _) _).setCell (Nat.le_add_right _ _) _)⟩
end
end Go.Proofs.YtpfibkgmfapnjaaGreatDoor
