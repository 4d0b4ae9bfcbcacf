/- Manifest: the order of files. -/
import Derived.Test.YtpfibkgmfapnjaaGreatDoorS4
import Derived.Test.YtpfibkgmfapnjaaGreatDoorGaS
import Derived.Sort.OwnSorted
import Derived.Shelf.SlSortCmp.NoneTotal
set_option linter.unusedSimpArgs false
set_option linter.unusedVariables false
namespace Go.Proofs.YtpfibkgmfapnjaaGreatDoor
section
open Go.RowKit
theorem tn_drewN' {F:Nat→Prop} (w:World) (d:Nat):Tn F w (w.drewN d):=⟨rfl,rfl,rfl,Nat.le_refl _,fun _ _ _=>rfl⟩
theorem grow_below (w:World) (os:Array Obj):Below w.heap.size w (Sort.grow w os):=
 ⟨rfl,rfl,rfl,by simp[Sort.grow],fun i hi=>by
  show(w.heap++os)[i]?=w.heap[i]?
  exact Array.getElem?_append_left hi⟩
set_option maxRecDepth 100000 in
set_option maxHeartbeats 1000000 in
theorem order_any (a b:Fi) (w:World):Calls Tryz.prog 214 #[.agg #[.int .i64 a.lv,.int .i64 a.nu,.int .i64 a.ct,.int .i64 a.sz,.string a.f,.string a.l],.agg #[.int .i64 b.lv,.int .i64 b.nu,.int .i64 b.ct,.int .i64 b.sz,.string b.f,.string b.l]] w fun e w'=>e= .returned (.int .i64 (ordF a b))∧GrW w w':=by
 by_cases h0:a.lv=0
 · have t0:(a.lv == 0)=true:=beq_iff_eq.2 h0
   by_cases h1:b.lv=0
   · have t1:(b.lv == 0)=true:=beq_iff_eq.2 h1
     have he:ordF a b=cI a.nu b.nu:=by unfold ordF;rw[if_pos ⟨h0,h1⟩]
     rw[he]
     clear he h0 h1
     go_enter Tryz.func214,Tryz.ntmps214
     go_wp2_with (go_at_call 215;refine(lT _ _ _).mono ?_;rintro e w' ⟨rfl,rfl⟩)
     go_ret
     exact⟨rfl,((GrW.refl _).alloc _).alloc _⟩
   · have t1:(b.lv == 0)=false:=beq_eq_false_iff_ne.2 h1
     have he:ordF a b=orI (cI a.lv b.lv) (kc a.f b.f):=by unfold ordF;rw[if_neg (fun h=>h1 h.2)]
     rw[he]
     clear he h0 h1
     go_enter Tryz.func214,Tryz.ntmps214
     go_wp2_with fail
     obtain⟨w2,hw2⟩:∃ w2,w2=(w.alloc (.cells #[.int .i64 a.lv,.int .i64 a.nu,.int .i64 a.ct,.int .i64 a.sz,.string a.f,.string a.l] 79)).alloc (.cells #[.int .i64 b.lv,.int .i64 b.nu,.int .i64 b.ct,.int .i64 b.sz,.string b.f,.string b.l] 79):=⟨_,rfl⟩
     have g0:w2.drew.cell? ⟨w.heap.size,0,none⟩=some (.int .i64 a.lv):=by rw[hw2];simp[go_sem]
     have g1:w2.drew.cell? ⟨w.heap.size+1,0,none⟩=some (.int .i64 b.lv):=by rw[hw2];simp[go_sem]
     have g2:w2.drew.cell? ⟨w.heap.size,4,none⟩=some (.string a.f):=by rw[hw2];simp[go_sem]
     have g3:w2.drew.cell? ⟨w.heap.size+1,4,none⟩=some (.string b.f):=by rw[hw2];simp[go_sem]
     have hgr:GrW w w2:=by rw[hw2];exact((GrW.refl _).alloc _).alloc _
     have HGR:=aB hgr
     rw[← hw2]
     clear hw2 hgr
     refine dQ (fun w'=>w'.cell? ⟨w.heap.size,0,none⟩=some (.int .i64 a.lv)∧w'.cell? ⟨w.heap.size+1,0,none⟩=some (.int .i64 b.lv)∧w'.cell? ⟨w.heap.size,4,none⟩=some (.string a.f)∧w'.cell? ⟨w.heap.size+1,4,none⟩=some (.string b.f)) 12 13 ⟨g0,g1,g2,g3⟩ (fun hH=>?_)
     refine bU [[0],[1],[2],[3],[5],[6],[7],[8]] hH ?_
     refine bM (i:=4) rfl (fun K hK=>?_)
     go_simp
     go_at_call 215
     refine(lT _ _ _).mono ?_
     rintro e v ⟨rfl,rfl⟩
     refine bH hK ⟨g0,g1,g2,g3⟩ ?_
     clear hK K
     intro hH
     refine bM (i:=9) rfl (fun K hK=>?_)
     go_simp
     go_at_call 67
     refine(bS _ _ _).mono ?_
     rintro e v ⟨rfl,rfl⟩
     refine bH hK ⟨g0,g1,g2,g3⟩ ?_
     clear hK K
     intro hH
     refine bM (i:=10) rfl (fun K hK=>?_)
     go_simp
     obtain⟨w3,hw3⟩:∃ w3,w3=(w2.alloc (.cells #[.int .i64 (cI a.lv b.lv),.int .i64 (kc a.f b.f)] 3)).drew:=⟨_,rfl⟩
     have s0:w3.cell? ⟨w2.heap.size,0,none⟩=some (.int .i64 (cI a.lv b.lv)):=by rw[hw3];simp[go_sem]
     have s1:w3.cell? ⟨w2.heap.size,1,none⟩=some (.int .i64 (kc a.f b.f)):=by rw[hw3];simp[go_sem]
     have hb3:Below w2.drew.heap.size w2.drew w3:=by rw[hw3];exact(((Below.refl w2.drew.heap.size w2.drew).alloc (Nat.le_refl _) _):Below w2.drew.heap.size w2.drew (w2.drew.alloc _))
     have hg3:GrW w w3:=by rw[hw3];exact(HGR.out.alloc _).drew
     have HG3:=aB hg3
     have q0:=(hb3.cell (p:=⟨w.heap.size,0,none⟩) (World.block_lt_of_cell? _ _ g0)).trans g0
     have q1:=(hb3.cell (p:=⟨w.heap.size+1,0,none⟩) (World.block_lt_of_cell? _ _ g1)).trans g1
     have q2:=(hb3.cell (p:=⟨w.heap.size,4,none⟩) (World.block_lt_of_cell? _ _ g2)).trans g2
     have q3:=(hb3.cell (p:=⟨w.heap.size+1,4,none⟩) (World.block_lt_of_cell? _ _ g3)).trans g3
     rw[← hw3]
     clear hw3 hb3 hg3 g0 g1 g2 g3
     refine bH hK ⟨q0,q1,q2,q3⟩ ?_
     clear hK K
     intro hH
     refine bM (i:=11) rfl (fun K hK=>?_)
     go_simp
     go_at_call 213
     refine(or_any s0 s1).mono ?_
     rintro e v ⟨rfl,rfl⟩
     refine bH hK ⟨q0,q1,q2,q3⟩ ?_
     clear hK K
     intro hH
     refine eU ?_
     clear hH
     go_wp2_with fail
     go_ret
     exact⟨rfl,HG3.out⟩
 · have t0:(a.lv == 0)=false:=beq_eq_false_iff_ne.2 h0
   have he:ordF a b=orI (cI a.lv b.lv) (kc a.f b.f):=by unfold ordF;rw[if_neg (fun h=>h0 h.1)]
   rw[he]
   clear he h0
   go_enter Tryz.func214,Tryz.ntmps214
   go_wp2_with fail
   obtain⟨w2,hw2⟩:∃ w2,w2=(w.alloc (.cells #[.int .i64 a.lv,.int .i64 a.nu,.int .i64 a.ct,.int .i64 a.sz,.string a.f,.string a.l] 79)).alloc (.cells #[.int .i64 b.lv,.int .i64 b.nu,.int .i64 b.ct,.int .i64 b.sz,.string b.f,.string b.l] 79):=⟨_,rfl⟩
   have g0:w2.drew.cell? ⟨w.heap.size,0,none⟩=some (.int .i64 a.lv):=by rw[hw2];simp[go_sem]
   have g1:w2.drew.cell? ⟨w.heap.size+1,0,none⟩=some (.int .i64 b.lv):=by rw[hw2];simp[go_sem]
   have g2:w2.drew.cell? ⟨w.heap.size,4,none⟩=some (.string a.f):=by rw[hw2];simp[go_sem]
   have g3:w2.drew.cell? ⟨w.heap.size+1,4,none⟩=some (.string b.f):=by rw[hw2];simp[go_sem]
   have hgr:GrW w w2:=by rw[hw2];exact((GrW.refl _).alloc _).alloc _
   have HGR:=aB hgr
   rw[← hw2]
   clear hw2 hgr
   refine dQ (fun w'=>w'.cell? ⟨w.heap.size,0,none⟩=some (.int .i64 a.lv)∧w'.cell? ⟨w.heap.size+1,0,none⟩=some (.int .i64 b.lv)∧w'.cell? ⟨w.heap.size,4,none⟩=some (.string a.f)∧w'.cell? ⟨w.heap.size+1,4,none⟩=some (.string b.f)) 12 13 ⟨g0,g1,g2,g3⟩ (fun hH=>?_)
   refine bU [[0],[1],[2],[3],[5],[6],[7],[8]] hH ?_
   refine bM (i:=4) rfl (fun K hK=>?_)
   go_simp
   go_at_call 215
   refine(lT _ _ _).mono ?_
   rintro e v ⟨rfl,rfl⟩
   refine bH hK ⟨g0,g1,g2,g3⟩ ?_
   clear hK K
   intro hH
   refine bM (i:=9) rfl (fun K hK=>?_)
   go_simp
   go_at_call 67
   refine(bS _ _ _).mono ?_
   rintro e v ⟨rfl,rfl⟩
   refine bH hK ⟨g0,g1,g2,g3⟩ ?_
   clear hK K
   intro hH
   refine bM (i:=10) rfl (fun K hK=>?_)
   go_simp
   obtain⟨w3,hw3⟩:∃ w3,w3=(w2.alloc (.cells #[.int .i64 (cI a.lv b.lv),.int .i64 (kc a.f b.f)] 3)).drew:=⟨_,rfl⟩
   have s0:w3.cell? ⟨w2.heap.size,0,none⟩=some (.int .i64 (cI a.lv b.lv)):=by rw[hw3];simp[go_sem]
   have s1:w3.cell? ⟨w2.heap.size,1,none⟩=some (.int .i64 (kc a.f b.f)):=by rw[hw3];simp[go_sem]
   have hb3:Below w2.drew.heap.size w2.drew w3:=by rw[hw3];exact(((Below.refl w2.drew.heap.size w2.drew).alloc (Nat.le_refl _) _):Below w2.drew.heap.size w2.drew (w2.drew.alloc _))
   have hg3:GrW w w3:=by rw[hw3];exact(HGR.out.alloc _).drew
   have HG3:=aB hg3
   have q0:=(hb3.cell (p:=⟨w.heap.size,0,none⟩) (World.block_lt_of_cell? _ _ g0)).trans g0
   have q1:=(hb3.cell (p:=⟨w.heap.size+1,0,none⟩) (World.block_lt_of_cell? _ _ g1)).trans g1
   have q2:=(hb3.cell (p:=⟨w.heap.size,4,none⟩) (World.block_lt_of_cell? _ _ g2)).trans g2
   have q3:=(hb3.cell (p:=⟨w.heap.size+1,4,none⟩) (World.block_lt_of_cell? _ _ g3)).trans g3
   rw[← hw3]
   clear hw3 hb3 hg3 g0 g1 g2 g3
   refine bH hK ⟨q0,q1,q2,q3⟩ ?_
   clear hK K
   intro hH
   refine bM (i:=11) rfl (fun K hK=>?_)
   go_simp
   go_at_call 213
   refine(or_any s0 s1).mono ?_
   rintro e v ⟨rfl,rfl⟩
   refine bH hK ⟨q0,q1,q2,q3⟩ ?_
   clear hK K
   intro hH
   refine eU ?_
   clear hH
   go_wp2_with fail
   go_ret
   exact⟨rfl,HG3.out⟩
theorem GrW.below {w w':World} (h:GrW w w'):Below w.heap.size w w':=by
 obtain⟨q,os,rfl⟩:=h
 exact((tn_drewN' (F:=fun _=>False) w q).below (Nat.le_refl _) (fun _ e=>e.elim)).trans (grow_below (w.drewN q) os)
set_option maxRecDepth 100000 in
set_option maxHeartbeats 2000000 in
theorem tables1_any (a b:Fi) (w:World):Calls Tryz.prog 212 #[.agg (Fi.cells a).toArray,.agg (Fi.cells b).toArray] w fun e w'=>e= .returned (.int .i64 (cfF a b))∧GrW w w':=by
 show Calls Tryz.prog 212 #[.agg #[.int .i64 a.lv,.int .i64 a.nu,.int .i64 a.ct,.int .i64 a.sz,.string a.f,.string a.l],.agg #[.int .i64 b.lv,.int .i64 b.nu,.int .i64 b.ct,.int .i64 b.sz,.string b.f,.string b.l]] w _
 unfold cfF
 go_enter Tryz.func212,Tryz.ntmps212
 go_wp2_with fail
 obtain⟨w2,hw2⟩:∃ w2,w2=(w.alloc (.cells #[.int .i64 a.lv,.int .i64 a.nu,.int .i64 a.ct,.int .i64 a.sz,.string a.f,.string a.l] 79)).alloc (.cells #[.int .i64 b.lv,.int .i64 b.nu,.int .i64 b.ct,.int .i64 b.sz,.string b.f,.string b.l] 79):=⟨_,rfl⟩
 have g00:w2.drew.cell? ⟨w.heap.size,0,none⟩=some (.int .i64 a.lv):=by rw[hw2];simp[go_sem]
 have g01:w2.drew.cell? ⟨w.heap.size,1,none⟩=some (.int .i64 a.nu):=by rw[hw2];simp[go_sem]
 have g02:w2.drew.cell? ⟨w.heap.size,2,none⟩=some (.int .i64 a.ct):=by rw[hw2];simp[go_sem]
 have g03:w2.drew.cell? ⟨w.heap.size,3,none⟩=some (.int .i64 a.sz):=by rw[hw2];simp[go_sem]
 have g04:w2.drew.cell? ⟨w.heap.size,4,none⟩=some (.string a.f):=by rw[hw2];simp[go_sem]
 have g05:w2.drew.cell? ⟨w.heap.size,5,none⟩=some (.string a.l):=by rw[hw2];simp[go_sem]
 have g10:w2.drew.cell? ⟨w.heap.size+1,0,none⟩=some (.int .i64 b.lv):=by rw[hw2];simp[go_sem]
 have g11:w2.drew.cell? ⟨w.heap.size+1,1,none⟩=some (.int .i64 b.nu):=by rw[hw2];simp[go_sem]
 have g12:w2.drew.cell? ⟨w.heap.size+1,2,none⟩=some (.int .i64 b.ct):=by rw[hw2];simp[go_sem]
 have g13:w2.drew.cell? ⟨w.heap.size+1,3,none⟩=some (.int .i64 b.sz):=by rw[hw2];simp[go_sem]
 have g14:w2.drew.cell? ⟨w.heap.size+1,4,none⟩=some (.string b.f):=by rw[hw2];simp[go_sem]
 have g15:w2.drew.cell? ⟨w.heap.size+1,5,none⟩=some (.string b.l):=by rw[hw2];simp[go_sem]
 have hgr:GrW w w2:=by rw[hw2];exact((GrW.refl _).alloc _).alloc _
 have HGR:=aB hgr
 rw[← hw2]
 clear hw2 hgr
 refine dQ (fun w'=>w'.cell? ⟨w.heap.size,0,none⟩=some (.int .i64 a.lv)∧w'.cell? ⟨w.heap.size,1,none⟩=some (.int .i64 a.nu)∧w'.cell? ⟨w.heap.size,2,none⟩=some (.int .i64 a.ct)∧w'.cell? ⟨w.heap.size,3,none⟩=some (.int .i64 a.sz)∧w'.cell? ⟨w.heap.size,4,none⟩=some (.string a.f)∧w'.cell? ⟨w.heap.size,5,none⟩=some (.string a.l)∧w'.cell? ⟨w.heap.size+1,0,none⟩=some (.int .i64 b.lv)∧w'.cell? ⟨w.heap.size+1,1,none⟩=some (.int .i64 b.nu)∧w'.cell? ⟨w.heap.size+1,2,none⟩=some (.int .i64 b.ct)∧w'.cell? ⟨w.heap.size+1,3,none⟩=some (.int .i64 b.sz)∧w'.cell? ⟨w.heap.size+1,4,none⟩=some (.string b.f)∧w'.cell? ⟨w.heap.size+1,5,none⟩=some (.string b.l)) 10 11 ⟨g00,g01,g02,g03,g04,g05,g10,g11,g12,g13,g14,g15⟩ (fun hH=>?_)
 refine bU [[0],[1],[3],[4],[5],[6]] hH ?_
 refine bM (i:=2) rfl (fun K hK=>?_)
 go_simp
 go_at_call 214
 refine(order_any a b _).mono ?_
 rintro e v ⟨rfl,hv⟩
 have hbv:=hv.below
 have q00:=(hbv.cell (p:=⟨w.heap.size,0,none⟩) (World.block_lt_of_cell? _ _ g00)).trans g00
 have q01:=(hbv.cell (p:=⟨w.heap.size,1,none⟩) (World.block_lt_of_cell? _ _ g01)).trans g01
 have q02:=(hbv.cell (p:=⟨w.heap.size,2,none⟩) (World.block_lt_of_cell? _ _ g02)).trans g02
 have q03:=(hbv.cell (p:=⟨w.heap.size,3,none⟩) (World.block_lt_of_cell? _ _ g03)).trans g03
 have q04:=(hbv.cell (p:=⟨w.heap.size,4,none⟩) (World.block_lt_of_cell? _ _ g04)).trans g04
 have q05:=(hbv.cell (p:=⟨w.heap.size,5,none⟩) (World.block_lt_of_cell? _ _ g05)).trans g05
 have q10:=(hbv.cell (p:=⟨w.heap.size+1,0,none⟩) (World.block_lt_of_cell? _ _ g10)).trans g10
 have q11:=(hbv.cell (p:=⟨w.heap.size+1,1,none⟩) (World.block_lt_of_cell? _ _ g11)).trans g11
 have q12:=(hbv.cell (p:=⟨w.heap.size+1,2,none⟩) (World.block_lt_of_cell? _ _ g12)).trans g12
 have q13:=(hbv.cell (p:=⟨w.heap.size+1,3,none⟩) (World.block_lt_of_cell? _ _ g13)).trans g13
 have q14:=(hbv.cell (p:=⟨w.heap.size+1,4,none⟩) (World.block_lt_of_cell? _ _ g14)).trans g14
 have q15:=(hbv.cell (p:=⟨w.heap.size+1,5,none⟩) (World.block_lt_of_cell? _ _ g15)).trans g15
 have HV:=aB (HGR.out.drew.trans hv)
 clear hbv hv g00 g01 g02 g03 g04 g05 g10 g11 g12 g13 g14 g15
 refine bH hK ⟨q00,q01,q02,q03,q04,q05,q10,q11,q12,q13,q14,q15⟩ ?_
 clear hK K
 intro hH
 refine bM (i:=7) rfl (fun K hK=>?_)
 go_simp
 go_at_call 215
 refine(lT _ _ _).mono ?_
 rintro e v7 ⟨rfl,rfl⟩
 refine bH hK ⟨q00,q01,q02,q03,q04,q05,q10,q11,q12,q13,q14,q15⟩ ?_
 clear hK K
 intro hH
 refine bM (i:=8) rfl (fun K hK=>?_)
 go_simp
 obtain⟨w3,hw3⟩:∃ w3,w3=v7.alloc (.cells #[.int .i64 (ordF a b),.int .i64 (cI a.nu b.nu)] 3):=⟨_,rfl⟩
 have s0:w3.cell? ⟨v7.heap.size,0,none⟩=some (.int .i64 (ordF a b)):=by rw[hw3];simp[go_sem]
 have s1:w3.cell? ⟨v7.heap.size,1,none⟩=some (.int .i64 (cI a.nu b.nu)):=by rw[hw3];simp[go_sem]
 have hb3:Below v7.heap.size v7 w3:=by rw[hw3];exact(Below.refl _ _).alloc (Nat.le_refl _) _
 have hg3:GrW w w3:=by rw[hw3];exact HV.out.alloc _
 have HG3:=aB hg3
 have r00:=(hb3.cell (p:=⟨w.heap.size,0,none⟩) (World.block_lt_of_cell? _ _ q00)).trans q00
 have r01:=(hb3.cell (p:=⟨w.heap.size,1,none⟩) (World.block_lt_of_cell? _ _ q01)).trans q01
 have r02:=(hb3.cell (p:=⟨w.heap.size,2,none⟩) (World.block_lt_of_cell? _ _ q02)).trans q02
 have r03:=(hb3.cell (p:=⟨w.heap.size,3,none⟩) (World.block_lt_of_cell? _ _ q03)).trans q03
 have r04:=(hb3.cell (p:=⟨w.heap.size,4,none⟩) (World.block_lt_of_cell? _ _ q04)).trans q04
 have r05:=(hb3.cell (p:=⟨w.heap.size,5,none⟩) (World.block_lt_of_cell? _ _ q05)).trans q05
 have r10:=(hb3.cell (p:=⟨w.heap.size+1,0,none⟩) (World.block_lt_of_cell? _ _ q10)).trans q10
 have r11:=(hb3.cell (p:=⟨w.heap.size+1,1,none⟩) (World.block_lt_of_cell? _ _ q11)).trans q11
 have r12:=(hb3.cell (p:=⟨w.heap.size+1,2,none⟩) (World.block_lt_of_cell? _ _ q12)).trans q12
 have r13:=(hb3.cell (p:=⟨w.heap.size+1,3,none⟩) (World.block_lt_of_cell? _ _ q13)).trans q13
 have r14:=(hb3.cell (p:=⟨w.heap.size+1,4,none⟩) (World.block_lt_of_cell? _ _ q14)).trans q14
 have r15:=(hb3.cell (p:=⟨w.heap.size+1,5,none⟩) (World.block_lt_of_cell? _ _ q15)).trans q15
 rw[← hw3]
 clear hw3 hb3 hg3 q00 q01 q02 q03 q04 q05 q10 q11 q12 q13 q14 q15
 refine bH hK ⟨r00,r01,r02,r03,r04,r05,r10,r11,r12,r13,r14,r15⟩ ?_
 clear hK K
 intro hH
 refine bM (i:=9) rfl (fun K hK=>?_)
 go_simp
 go_at_call 213
 refine(or_any s0 s1).mono ?_
 rintro e v ⟨rfl,rfl⟩
 refine bH hK ⟨r00,r01,r02,r03,r04,r05,r10,r11,r12,r13,r14,r15⟩ ?_
 clear hK K
 intro hH
 refine eU ?_
 clear hH
 go_wp2_with fail
 go_ret
 exact⟨rfl,HG3.out⟩
end
section
open Go.RowKit Go.Shelf
section
variable {α:Type} [Inhabited α] {cell:α→List Value} {k by_:Nat} {P:Program} {T E:TypeId} {w:World} {B g cap:Nat}
theorem flatK_list (e:kJ P T E k by_ cell) (l:List α):(Sort.flatK cell k l.toArray).toList=l.flatMap cell:=by
 apply List.ext_getElem?
 intro t
 have hlen:=e.lens l
 have hk0:=e.pos
 by_cases ht:t<l.length*k
 · have hi:t/k<l.length:=(Nat.div_lt_iff_lt_mul hk0).2 ht
   have hr:=Nat.mod_lt t hk0
   have hg:=e.get l (t/k) (t%k) hi hr
   have hdm:t/k*k+t%k=t:=by rw[Nat.mul_comm];exact Nat.div_add_mod t k
   rw[hdm]at hg
   have hsz:t<(Sort.flatK cell k l.toArray).size:=by rw[Sort.size_flatK];simpa using ht
   rw[hg,Array.getElem?_toList,Array.getElem?_eq_getElem hsz]
   have h2:=Sort.get_flatK cell k l.toArray t (by simpa using ht)
   rw[getElem!_pos _ t hsz]at h2
   rw[h2]
   have h3:l.toArray[t/k]! =l[t/k]:=by rw[getElem!_pos _ _ (by simpa using hi)];simp
   rw[h3]
   have h4:t%k<(cell l[t/k]).length:=by rw[e.len];exact hr
   rw[getElem!_pos (cell l[t/k]) (t%k) h4,List.getElem?_eq_getElem h4]
 · rw[List.getElem?_eq_none (by rw[Array.length_toList,Sort.size_flatK];simp;omega),List.getElem?_eq_none (by omega)]
theorem own_holdsK {e:kJ P T E k by_ cell} {l:List α} (h:bE e w B (.slice (some ⟨g,0,none⟩) l.length cap) l):Sort.HoldsK cell k w g 0 l.toArray:=by
 intro j hj
 rw[Sort.size_flatK]at hj
 have hj':j<l.length*k:=by simpa using hj
 refine⟨?_,h.frozenAt _⟩
 have h1:=h.cellAt j hj'
 rw[Nat.zero_add,h1,←flatK_list e l,Array.getElem?_toList]
 have hsz:j<(Sort.flatK cell k l.toArray).size:=by rw[Sort.size_flatK];exact hj
 rw[Array.getElem?_eq_getElem hsz,getElem!_pos (Sort.flatK cell k l.toArray) j hsz]
 rfl
theorem take_putV (cur F:Array Value) (h:F.size≤cur.size):(Sort.putCells id 0 F cur).toList.take F.size=F.toList:=by
 apply List.ext_getElem?
 intro j
 by_cases hj:j<F.size
 · rw[List.getElem?_take_of_lt hj,Array.getElem?_toList]
   simp[Sort.putCells,hj,show j<cur.size by omega]
 · rw[List.getElem?_take_eq_none (by omega),List.getElem?_eq_none (by simp;omega)]
theorem own_sortedK {e:kJ P T E k by_ cell} {l d:List α} (h:bE e w B (.slice (some ⟨g,0,none⟩) l.length cap) l) (hd:d.length=l.length) (n:Nat) (os:Array Obj):
 bE e (sortWorldK cell k w g 0 n d.toArray os) B (.slice (some ⟨g,0,none⟩) l.length cap) d∧Tn (fun q=>q=g) w (sortWorldK cell k w g 0 n d.toArray os):=by
 obtain⟨h1,h2⟩:=h
 rcases h2 with⟨h2,_⟩|⟨g',cap',cur,hv,hg,hh,hn,hc,hcl,htk⟩
 · cases h2
 · injection hv with e1 e2 e3
   injection e1 with e1
   injection e1 with e1
   subst e1 e3
   have hlt:g<w.heap.size:=(Array.getElem?_eq_some_iff.1 hh).1
   have hF:(Sort.flatK cell k d.toArray).size=l.length*k:=by rw[Sort.size_flatK];simp[hd]
   have hle:l.length*k≤cap*k:=Nat.mul_le_mul_right k hn
   constructor
   · refine⟨by rw[e.lens],.inr ⟨g,cap,Sort.putCells id 0 (Sort.flatK cell k d.toArray) cur,?_,hg,?_,by rw[hd];exact hn,hc,by simp[Sort.putCells,hcl],?_⟩⟩
     · rw[hd]
     · unfold sortWorldK Sort.putRowK
       rw[Sort.heap_grow_old _ _ (by simpa using hlt)]
       simp[Sort.putRow,Sort.mapBlock,Sort.ahead,Array.getElem?_modify,hh,Sort.onCells]
     · rw[hd,←flatK_list e d,←hF]
       exact take_putV cur _ (by rw[hF,hcl];exact hle)
   · refine⟨rfl,rfl,rfl,by unfold sortWorldK Sort.putRowK;simp,fun i hi hne=>?_⟩
     unfold sortWorldK Sort.putRowK
     rw[Sort.heap_grow_old _ _ (by simpa using hi)]
     have:g≠i:=fun e=>hne e.symm
     simp[Sort.putRow,Sort.mapBlock,Sort.ahead,Array.getElem?_modify,this]
theorem perm_of_in {d d':Array α} (h:Sort.PermIn 0 d.size d d'):d'.toList.Perm d.toList∧d'.size=d.size:=by
 obtain⟨p1,_,p3⟩:=h
 refine⟨?_,p1⟩
 have e1:d'.extract 0 d.size=d':=by rw[← p1];exact Array.extract_size
 have e2:d.extract 0 d.size=d:=Array.extract_size
 rwa [e1,e2]at p3
theorem jA {R:α→α→Prop} {lt:α→α→Bool} (hR:∀ a b,lt b a=false→R a b) {n:Nat} {d':Array α} (hn:d'.size=n) (h:Sort.SortedIn lt 0 n d'):d'.toList.Pairwise R:=by
 rw[List.pairwise_iff_getElem]
 intro i j hi hj hij
 have hi3:i<d'.size:=by simpa using hi
 have hj3:j<d'.size:=by simpa using hj
 have:=h i j (Nat.zero_le _) hij (by omega)
 rw[getElem!_pos d' i hi3,getElem!_pos d' j hj3]at this
 exact hR _ _ this
end
set_option maxRecDepth 100000 in
theorem sortFi_any {w:World} {B:Nat} {v:Value} {l:List Fi} (h:bE eFi w B v l) (hn:eP l) (hl:l.length≤1000000) (hB:B≤w.heap.size):
 Calls Tryz.prog 211 #[v,.func (.func 212) #[] #[]] w fun e w'=>e= .returned (.tuple #[])∧bE eFi w' B v (cV l)∧Tn (fun q=>v.ownBlock=some q) w w':=by
 have h0:=h
 obtain⟨h1,h2⟩:=h
 rcases h2 with⟨rfl,h3⟩|⟨g,cap,cur,rfl,hg,hh,hle,hc,hcl,htk⟩
 · obtain rfl:=List.eq_nil_of_length_eq_zero h3
   refine(AnyF.slices_SortFunc_none Tryz.gl_sortFi none 0 _ w).mono ?_
   rintro e w' ⟨rfl,rfl⟩
   exact⟨rfl,by rw[show cV ([]:List Fi)=[]from by unfold cV;simp];exact h0,Tn.refl _ _⟩
 · have eg:∀ args w,(callFunc 212 args).run Tryz.prog w= .ok (.enter 212 args) w:=enters_of Tryz.func212 (by kernel_rfl) rfl
   have hcon:=AnyQ.slices_SortFunc Tryz.gl_sortFi 6 (fun _=>by kernel_rfl) (fun _=>by kernel_rfl) Fi.cells (fun _=>rfl) eFi.one cfF swoF 212 #[] g 0 cap l.toArray w eg
    (fun m os dk _ x y=>tables1_any x y _) (own_holdsK h0) (h0.lt g rfl).2 (by simp;omega)
   have hsz:l.toArray.size=l.length:=by simp
   rw[hsz]at hcon
   refine hcon.mono ?_
   rintro e w' ⟨rfl,d',n,os,hp,hso,rfl⟩
   rw[← hsz]at hp
   obtain⟨hperm,hs⟩:=perm_of_in hp
   have hd:d'.toList=cV l:=iX hn (by simpa using hperm) (jA (fun a b hab hlt=>(of_decide_eq_false hab:¬ cfF b a<0) ((eO b a).2 hlt)) (hs.trans hsz) hso)
   have hlen:d'.toList.length=l.length:=by rw[Array.length_toList,hs,hsz]
   have:=own_sortedK h0 hlen n os
   rw[Array.toArray_toList]at this
   refine⟨rfl,by rw[← hd];exact this.1,this.2.mono (fun q hq=>by rw[hq];rfl)⟩
set_option maxRecDepth 100000 in
theorem sortNt_any {w:World} {B:Nat} {v:Value} {l:List KV} (h:bE eNt w B v l) (hn:(l.map (·.1)).Nodup) (hl:l.length≤1000000) (hB:B≤w.heap.size):
 Calls Tryz.prog 217 #[v,.func (.func 218) #[] #[]] w fun e w'=>e= .returned (.tuple #[])∧bE eNt w' B v (lF l)∧Tn (fun q=>v.ownBlock=some q) w w':=by
 have h0:=h
 obtain⟨h1,h2⟩:=h
 rcases h2 with⟨rfl,h3⟩|⟨g,cap,cur,rfl,hg,hh,hle,hc,hcl,htk⟩
 · obtain rfl:=List.eq_nil_of_length_eq_zero h3
   refine(AnyF.slices_SortFunc_none Tryz.gl_sortNt none 0 _ w).mono ?_
   rintro e w' ⟨rfl,rfl⟩
   exact⟨rfl,by rw[show lF ([]:List KV)=[]from by unfold lF;simp];exact h0,Tn.refl _ _⟩
 · have eg:∀ args w,(callFunc 218 args).run Tryz.prog w= .ok (.enter 218 args) w:=enters_of Tryz.func218 (by kernel_rfl) rfl
   have hcon:=AnyQ.slices_SortFunc Tryz.gl_sortNt 2 (fun _=>by kernel_rfl) (fun _=>by kernel_rfl) cNt (fun _=>rfl) eNt.one (fun a b:KV=>kc a.1 b.1) swoN 218 #[] g 0 cap l.toArray w eg
    (fun m os dk _ x y=>notes1_any x y _) (own_holdsK h0) (h0.lt g rfl).2 (by simp;omega)
   have hsz:l.toArray.size=l.length:=by simp
   rw[hsz]at hcon
   refine hcon.mono ?_
   rintro e w' ⟨rfl,d',n,os,hp,hso,rfl⟩
   rw[← hsz]at hp
   obtain⟨hperm,hs⟩:=perm_of_in hp
   have hd:d'.toList=lF l:=sortN_uniq hn (by simpa using hperm) (jA (R:=fun a b=>¬ LtN b a) (fun a b hab=>(of_decide_eq_false hab:¬ kc b.1 a.1<0)) (hs.trans hsz) hso)
   have hlen:d'.toList.length=l.length:=by rw[Array.length_toList,hs,hsz]
   have:=own_sortedK h0 hlen n os
   rw[Array.toArray_toList]at this
   refine⟨rfl,by rw[← hd];exact this.1,this.2.mono (fun q hq=>by rw[hq];rfl)⟩
end
end Go.Proofs.YtpfibkgmfapnjaaGreatDoor
