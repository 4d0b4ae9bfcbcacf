/- Manifest: Apply. -/
import Derived.Test.YtpfibkgmfapnjaaGreatDoorS10
import Derived.Test.YtpfibkgmfapnjaaGreatDoorS11
import Derived.Test.YtpfibkgmfapnjaaGreatDoorS4
import Derived.Deep.DeepCutAuto
set_option linter.unusedSimpArgs false
set_option linter.unusedVariables false
namespace Go.Proofs.YtpfibkgmfapnjaaGreatDoor
section
open Go.RowKit
section
variable {P:Program} {ops:Array Oper} {Q:Exit→Act→World→Prop} {md:Region.Mode} {S:World→Prop} {k:Nat}
theorem gD {i:Nat} {t:Option Tmp} {op:Op} {ty:TypeId} {pos:String} {aft:Array Edge} {gd:Option (Nat×Bool)} {fuel:Nat} {listed:Array Bool} {a:Act} {w:World} (hi:ops[i]?=some ⟨t,op,ty,pos,aft,gd⟩)
 (h:∀ K':Act→World→Prop,Shut (∀ a w,S w→(S w→bI P md ops Q S k fuel (listed.setIfInBounds i true) a w)→K' a w)→
  if Region.wanted ⟨t,op,ty,pos,aft,gd⟩ (yielded ops a.tmps)=true then Oper.wp P ⟨t,op,ty,pos,aft,gd⟩ a w K' Q else K' (a.put t undef) w)
 (hk:(listed.setIfInBounds i true).getD k true=false):wpOp P ops Q i (fun a' w'=>((listed.setIfInBounds i true).getD k true=false→S w')∧bI P md ops Q S k fuel (listed.setIfInBounds i true) a' w') a w:=
 wpOp_step hi (fun K' hK=>h K' (fun a w hS hW=>hK a w ⟨fun _=>hS,hW hS⟩))
end
theorem cJ {fn:Func} {t u:Tmp} {ty:TypeId} (h:fn.results= #[.cell t ty,.tmp u]) {tmps:Array Value} {P:Program} {w:World} {ad:Addr} {v:Value} (ht:tmps.getD t undef= .pointer (some ad)) (hl:(loadVar ty ad).run P w= .ok v w):
 (results fn tmps).run P w= .ok (.tuple #[v,tmps.getD u undef]) w:=by
 have ht':tmps[t]?.getD undef= .pointer (some ad):=by simpa using ht
 simp[results,h,ht',asAddr,hl,Result.andThen]
theorem load_st {w:World} {b:Nat} {x0 x3 x4:Value} {x1 x2:Int} (h0:w.cell? ⟨b,0,none⟩=some x0) (h1:w.cell? ⟨b,1,none⟩=some (.int .i64 x1)) (h2:w.cell? ⟨b,2,none⟩=some (.int .i64 x2)) (h3:w.cell? ⟨b,3,none⟩=some x3) (h4:w.cell? ⟨b,4,none⟩=some x4):
 (loadVar 35 ⟨b,0,none⟩).run Tryz.prog w= .ok (.agg #[x0,.int .i64 x1,.int .i64 x2,x3,x4]) w:=by
 simp[go_sem,loadVar,h0,h1,h2,h3,h4]
def kI (w:World) (B:Nat) (v:Value) (s:PS):Prop:=∃ fv lv nv,v= .agg #[fv,.int .i64 s.next,.int .i64 s.log,lv,nv]∧bE eFi w B fv s.fs∧bE eVec w B lv s.fl∧bE eNt w B nv s.ns
theorem ownSt00 (w:World) (B:Nat):kI w B (.agg #[.slice none 0 0,.int .i64 0,.int .i64 0,.slice none 0 0,.slice none 0 0]) s00:=⟨_,_,_,rfl,World.ownsRow_nil _ _ _ _,World.ownsRow_nil _ _ _ _,World.ownsRow_nil _ _ _ _⟩
def ApAns (s:PS) (e:PE) (w:World) (r:Ending) (w':World):Prop:=
 Below w.heap.size w w'∧∃ v,r= .returned (.tuple #[v,.int .i64 (aO s e).1])∧kI w' w.heap.size v (aO s e).2
structure ApS (w w':World) (vv0 vv1 vv2 vv3 vv4 uu0 uu1 uu2 uu3 uu4:Value):Prop where
 a0:w'.cell? ⟨w.heap.size,0,none⟩=some vv0
 a1:w'.cell? ⟨w.heap.size,1,none⟩=some vv1
 a2:w'.cell? ⟨w.heap.size,2,none⟩=some vv2
 a3:w'.cell? ⟨w.heap.size,3,none⟩=some vv3
 a4:w'.cell? ⟨w.heap.size,4,none⟩=some vv4
 b0:w'.cell? ⟨w.heap.size+1,0,none⟩=some uu0
 b1:w'.cell? ⟨w.heap.size+1,1,none⟩=some uu1
 b2:w'.cell? ⟨w.heap.size+1,2,none⟩=some uu2
 b3:w'.cell? ⟨w.heap.size+1,3,none⟩=some uu3
 b4:w'.cell? ⟨w.heap.size+1,4,none⟩=some uu4
 r0:w'.cell? ⟨w.heap.size+2,0,none⟩=some (.slice none 0 0)
 r1:w'.cell? ⟨w.heap.size+2,1,none⟩=some (.int .i64 0)
 r2:w'.cell? ⟨w.heap.size+2,2,none⟩=some (.int .i64 0)
 r3:w'.cell? ⟨w.heap.size+2,3,none⟩=some (.slice none 0 0)
 r4:w'.cell? ⟨w.heap.size+2,4,none⟩=some (.slice none 0 0)
 rf:∀ j,w'.frozen? ⟨w.heap.size+2,j,none⟩=false
 bel:Below w.heap.size w w'
 sz:w.heap.size+3≤w'.heap.size
theorem ApS.below {w w' w'':World} {vv0 vv1 vv2 vv3 vv4 uu0 uu1 uu2 uu3 uu4:Value} (h:ApS w w' vv0 vv1 vv2 vv3 vv4 uu0 uu1 uu2 uu3 uu4) (hb:Below w'.heap.size w' w''):ApS w w'' vv0 vv1 vv2 vv3 vv4 uu0 uu1 uu2 uu3 uu4:=
 ⟨(hb.cell (p:=⟨w.heap.size,0,none⟩) (by have:=h.sz;dsimp only;omega)).trans h.a0,(hb.cell (p:=⟨w.heap.size,1,none⟩) (by have:=h.sz;dsimp only;omega)).trans h.a1,(hb.cell (p:=⟨w.heap.size,2,none⟩) (by have:=h.sz;dsimp only;omega)).trans h.a2,(hb.cell (p:=⟨w.heap.size,3,none⟩) (by have:=h.sz;dsimp only;omega)).trans h.a3,(hb.cell (p:=⟨w.heap.size,4,none⟩) (by have:=h.sz;dsimp only;omega)).trans h.a4,(hb.cell (p:=⟨w.heap.size+1,0,none⟩) (by have:=h.sz;dsimp only;omega)).trans h.b0,(hb.cell (p:=⟨w.heap.size+1,1,none⟩) (by have:=h.sz;dsimp only;omega)).trans h.b1,(hb.cell (p:=⟨w.heap.size+1,2,none⟩) (by have:=h.sz;dsimp only;omega)).trans h.b2,(hb.cell (p:=⟨w.heap.size+1,3,none⟩) (by have:=h.sz;dsimp only;omega)).trans h.b3,(hb.cell (p:=⟨w.heap.size+1,4,none⟩) (by have:=h.sz;dsimp only;omega)).trans h.b4,(hb.cell (p:=⟨w.heap.size+2,0,none⟩) (by have:=h.sz;dsimp only;omega)).trans h.r0,(hb.cell (p:=⟨w.heap.size+2,1,none⟩) (by have:=h.sz;dsimp only;omega)).trans h.r1,(hb.cell (p:=⟨w.heap.size+2,2,none⟩) (by have:=h.sz;dsimp only;omega)).trans h.r2,(hb.cell (p:=⟨w.heap.size+2,3,none⟩) (by have:=h.sz;dsimp only;omega)).trans h.r3,(hb.cell (p:=⟨w.heap.size+2,4,none⟩) (by have:=h.sz;dsimp only;omega)).trans h.r4,fun j=>(hb.frozen (p:=⟨w.heap.size+2,j,none⟩) (by have:=h.sz;dsimp only;omega)).trans (h.rf j),h.bel.trans (hb.mono (by have:=h.sz;omega)),Nat.le_trans h.sz hb.size⟩
theorem ApS.as {w w':World} {vv0 vv1 vv2 vv3 vv4 uu0 uu1 uu2 uu3 uu4:Value} (h:ApS w w' vv0 vv1 vv2 vv3 vv4 uu0 uu1 uu2 uu3 uu4):w'.cell? ⟨w.heap.size,0,none⟩=some vv0∧w'.cell? ⟨w.heap.size,1,none⟩=some vv1∧w'.cell? ⟨w.heap.size,2,none⟩=some vv2∧w'.cell? ⟨w.heap.size,3,none⟩=some vv3∧w'.cell? ⟨w.heap.size,4,none⟩=some vv4:=⟨h.a0,h.a1,h.a2,h.a3,h.a4⟩
theorem ApS.bs {w w':World} {vv0 vv1 vv2 vv3 vv4 uu0 uu1 uu2 uu3 uu4:Value} (h:ApS w w' vv0 vv1 vv2 vv3 vv4 uu0 uu1 uu2 uu3 uu4):w'.cell? ⟨w.heap.size+1,0,none⟩=some uu0∧w'.cell? ⟨w.heap.size+1,1,none⟩=some uu1∧w'.cell? ⟨w.heap.size+1,2,none⟩=some uu2∧w'.cell? ⟨w.heap.size+1,3,none⟩=some uu3∧w'.cell? ⟨w.heap.size+1,4,none⟩=some uu4:=⟨h.b0,h.b1,h.b2,h.b3,h.b4⟩
theorem ApS.rs {w w':World} {vv0 vv1 vv2 vv3 vv4 uu0 uu1 uu2 uu3 uu4:Value} (h:ApS w w' vv0 vv1 vv2 vv3 vv4 uu0 uu1 uu2 uu3 uu4):w'.cell? ⟨w.heap.size+2,0,none⟩=some (.slice none 0 0)∧w'.cell? ⟨w.heap.size+2,1,none⟩=some (.int .i64 0)∧w'.cell? ⟨w.heap.size+2,2,none⟩=some (.int .i64 0)∧w'.cell? ⟨w.heap.size+2,3,none⟩=some (.slice none 0 0)∧w'.cell? ⟨w.heap.size+2,4,none⟩=some (.slice none 0 0)∧w'.frozen? ⟨w.heap.size+2,0,none⟩=false∧w'.frozen? ⟨w.heap.size+2,1,none⟩=false∧w'.frozen? ⟨w.heap.size+2,2,none⟩=false∧w'.frozen? ⟨w.heap.size+2,3,none⟩=false∧w'.frozen? ⟨w.heap.size+2,4,none⟩=false:=⟨h.r0,h.r1,h.r2,h.r3,h.r4,h.rf 0,h.rf 1,h.rf 2,h.rf 3,h.rf 4⟩
theorem ApS.load {w w':World} {vv0 vv1 vv2 vv3 vv4 uu0 uu1 uu2 uu3 uu4 x0 x3 x4:Value} {x1 x2:Int} (h:ApS w w' vv0 vv1 vv2 vv3 vv4 uu0 uu1 uu2 uu3 uu4):
 (loadVar 35 ⟨w.heap.size+2,0,none⟩).run Tryz.prog (((((w'.setCell ⟨w.heap.size+2,0,none⟩ (x0)).setCell ⟨w.heap.size+2,1,none⟩ (.int .i64 x1)).setCell ⟨w.heap.size+2,2,none⟩ (.int .i64 x2)).setCell ⟨w.heap.size+2,3,none⟩ (x3)).setCell ⟨w.heap.size+2,4,none⟩ (x4))= .ok (.agg #[x0,.int .i64 x1,.int .i64 x2,x3,x4]) (((((w'.setCell ⟨w.heap.size+2,0,none⟩ (x0)).setCell ⟨w.heap.size+2,1,none⟩ (.int .i64 x1)).setCell ⟨w.heap.size+2,2,none⟩ (.int .i64 x2)).setCell ⟨w.heap.size+2,3,none⟩ (x3)).setCell ⟨w.heap.size+2,4,none⟩ (x4)):=
 load_st (aC (aC (aC (aC (World.cell?_setCell_same _ _ _ h.r0) (by decide)) (by decide)) (by decide)) (by decide)) (aC (aC (aC (World.cell?_setCell_same _ _ _ (aC h.r1 (by decide))) (by decide)) (by decide)) (by decide)) (aC (aC (World.cell?_setCell_same _ _ _ (aC (aC h.r2 (by decide)) (by decide))) (by decide)) (by decide)) (aC (World.cell?_setCell_same _ _ _ (aC (aC (aC h.r3 (by decide)) (by decide)) (by decide))) (by decide)) (World.cell?_setCell_same _ _ _ (aC (aC (aC (aC h.r4 (by decide)) (by decide)) (by decide)) (by decide)))
theorem ApS.bel5 {w w':World} {vv0 vv1 vv2 vv3 vv4 uu0 uu1 uu2 uu3 uu4 x0 x1 x2 x3 x4:Value} (h:ApS w w' vv0 vv1 vv2 vv3 vv4 uu0 uu1 uu2 uu3 uu4):Below w.heap.size w (((((w'.setCell ⟨w.heap.size+2,0,none⟩ (x0)).setCell ⟨w.heap.size+2,1,none⟩ (x1)).setCell ⟨w.heap.size+2,2,none⟩ (x2)).setCell ⟨w.heap.size+2,3,none⟩ (x3)).setCell ⟨w.heap.size+2,4,none⟩ (x4)):=(((((h.bel.setCell (Nat.le_add_right _ _) _).setCell (Nat.le_add_right _ _) _).setCell (Nat.le_add_right _ _) _).setCell (Nat.le_add_right _ _) _).setCell (Nat.le_add_right _ _) _)
theorem lX {s:PS} {e:PE} {c:Int} {w w':World} {vv0 vv1 vv2 vv3 vv4 uu0 uu1 uu2 uu3 uu4:Value} (h:ApS w w' vv0 vv1 vv2 vv3 vv4 uu0 uu1 uu2 uu3 uu4) (hp:aO s e=(c,s00)) {r:Ending} (hr:r= .returned (.tuple #[.agg #[.slice none 0 0,.int .i64 0,.int .i64 0,.slice none 0 0,.slice none 0 0],.int .i64 c])):ApAns s e w r (((((w'.setCell ⟨w.heap.size+2,0,none⟩ (.slice none 0 0)).setCell ⟨w.heap.size+2,1,none⟩ (.int .i64 0)).setCell ⟨w.heap.size+2,2,none⟩ (.int .i64 0)).setCell ⟨w.heap.size+2,3,none⟩ (.slice none 0 0)).setCell ⟨w.heap.size+2,4,none⟩ (.slice none 0 0)):=
 ⟨h.bel5,_,by rw[hr,hp],by rw[hp];exact ownSt00 _ _⟩
def RgAns (s:PS) (e:PE) (wv:World) (fv:Value) (nx:Int) (y9:Value) (wx:World):Prop:=
 Below wv.heap.size wv wx∧∃ (ob:Nat) (ca na:Option Addr) (cc nc:Nat),y9= .pointer (some ⟨ob,0,none⟩)∧wv.heap.size≤ob∧ob<wx.heap.size∧
  wx.cell? ⟨ob,0,none⟩=some fv∧wx.cell? ⟨ob,1,none⟩=some (.int .i64 nx)∧wx.cell? ⟨ob,2,none⟩=some (.int .i64 s.log)∧wx.cell? ⟨ob,3,none⟩=some (.slice ca s.fl.length cc)∧wx.cell? ⟨ob,4,none⟩=some (.slice na (aZ s.ns e.ns).length nc)∧
  (∀ j,wx.frozen? ⟨ob,j,none⟩=false)∧bE eVec wx wv.heap.size (.slice ca s.fl.length cc) s.fl∧bE eNt wx wv.heap.size (.slice na (aZ s.ns e.ns).length nc) (aZ s.ns e.ns)∧
  (∀ q,(Value.slice ca s.fl.length cc).ownBlock=some q→q≠ob)∧(∀ q,(Value.slice na (aZ s.ns e.ns).length nc).ownBlock=some q→q≠ob)
def ClAns (l:List Int) (w:World) (r:Ending) (w':World):Prop:=∃ a c,r= .returned (.slice a l.length c)∧bE eVec w' w.heap.size (.slice a l.length c) l∧Below w.heap.size w w'
def NtAns (l:List KV) (w:World) (r:Ending) (w':World):Prop:=∃ a c,r= .returned (.slice a l.length c)∧bE eNt w' w.heap.size (.slice a l.length c) l∧Below w.heap.size w w'
theorem valid_of {x:Fi} (h:bB x=true):(1≤x.nu∧x.nu≤2147483647)∧x.f.size≤500∧x.l.size≤500:=by
 unfold bB inI at h
 simp only[Bool.and_eq_true,decide_eq_true_eq]at h
 obtain⟨⟨⟨⟨⟨⟨h1,h2⟩,h3⟩,h4⟩,h5⟩,h6⟩,h7⟩:=h
 omega
theorem right_of {e:PE} (h:bO e=true):(∀ f∈e.add,bB f=true)∧(e.fl=[]∨iS e.fl=true)∧(0≤e.log∧e.log≤4294967295)∧∀ p∈e.ns,dB p=true:=by
 unfold bO inI at h
 simp only[Bool.and_eq_true,Bool.or_eq_true,decide_eq_true_eq,List.all_eq_true]at h
 exact⟨h.1.1.1,h.1.1.2,h.1.2,h.2⟩
theorem lK {p:KV} (h:dB p=true):p.1.size≤32∧p.2.size≤20000:=by
 unfold dB at h
 simp only[Bool.and_eq_true,decide_eq_true_eq]at h
 exact⟨h.1.2,h.2⟩
theorem tabF_len {s:PS} {e:PE} {FL:List Fi} {nx:Int} (h:cU s e=(0,FL,nx)) (hn:eP s.fs):FL.length≤s.fs.length+e.add.length:=by
 have h0:(cU s e).1=0:=by rw[h]
 obtain⟨m,m2,last,hr,hd,ht⟩:=tabF_zero h0
 rw[h]at ht
 obtain rfl:FL=cV (gE m2):=congrArg (fun t=>t.2.1) ht
 have h1:=remF_len e.rem hr
 have h2:=(addF_mp e.add (remF_mp e.rem (lU hn) hr).1 hd).2.2.2.2.1
 have h3:(dU s.fs).length=s.fs.length:=by unfold dU;rw[List.length_map]
 have h4:(cV (gE m2)).length=m2.length:=by rw[(eC _).length_eq];unfold gE;rw[List.length_map]
 omega
theorem notesF_len (s e:List KV):(aZ s e).length≤s.length+e.length:=by
 have h1:=(dZ ((aU (s++e)).filter (fun p=>decide (p.2.size≠0)))).length_eq
 have h2:=List.length_filter_le (fun p:KV=>decide (p.2.size≠0)) (aU (s++e))
 have h3:=baseN_len (s++e)
 rw[List.length_append]at h3
 unfold aZ
 omega
theorem textsN_mul {l:List KV} (h:∀ p∈l,p.2.size≤20000):aJ l≤20000*l.length:=by
 induction l with
 |nil=>simp[aJ]
 |cons p l ih=>
  have h1:=h p (List.mem_cons_self ..)
  have h2:=ih (fun q hq=>h q (List.mem_cons_of_mem _ hq))
  have h3:aJ (p::l)=p.2.size+aJ l:=by simp[aJ]
  rw[h3,List.length_cons]
  omega
structure eH (w:World) (b:Nat) (x0 x1 x2 x3 x4:Value):Prop where
 z0:w.cell? ⟨b,0,none⟩=some x0
 z1:w.cell? ⟨b,1,none⟩=some x1
 z2:w.cell? ⟨b,2,none⟩=some x2
 z3:w.cell? ⟨b,3,none⟩=some x3
 z4:w.cell? ⟨b,4,none⟩=some x4
 zf:∀ j,w.frozen? ⟨b,j,none⟩=false
theorem eH.lt {w:World} {b:Nat} {x0 x1 x2 x3 x4:Value} (h:eH w b x0 x1 x2 x3 x4):b<w.heap.size:=World.block_lt_of_cell? _ _ h.z0
theorem eH.below {w w':World} {b:Nat} {x0 x1 x2 x3 x4:Value} (h:eH w b x0 x1 x2 x3 x4) (hb:Below w.heap.size w w'):eH w' b x0 x1 x2 x3 x4:=
 ⟨(hb.cell (p:=⟨b,0,none⟩) h.lt).trans h.z0,(hb.cell (p:=⟨b,1,none⟩) h.lt).trans h.z1,(hb.cell (p:=⟨b,2,none⟩) h.lt).trans h.z2,(hb.cell (p:=⟨b,3,none⟩) h.lt).trans h.z3,(hb.cell (p:=⟨b,4,none⟩) h.lt).trans h.z4,fun j=>(hb.frozen (p:=⟨b,j,none⟩) h.lt).trans (h.zf j)⟩
theorem eH.set2 {w:World} {b:Nat} {x0 x1 x2 x3 x4 y:Value} (h:eH w b x0 x1 x2 x3 x4):eH (w.setCell ⟨b,2,none⟩ y) b x0 x1 y x3 x4:=
 ⟨aC h.z0 (by decide),aC h.z1 (by decide),World.cell?_setCell_same _ _ _ h.z2,aC h.z3 (by decide),aC h.z4 (by decide),fun j=>by rw[World.frozen?_setCell];exact h.zf j⟩
theorem eH.set3 {w:World} {b:Nat} {x0 x1 x2 x3 x4 y:Value} (h:eH w b x0 x1 x2 x3 x4):eH (w.setCell ⟨b,3,none⟩ y) b x0 x1 x2 y x4:=
 ⟨aC h.z0 (by decide),aC h.z1 (by decide),aC h.z2 (by decide),World.cell?_setCell_same _ _ _ h.z3,aC h.z4 (by decide),fun j=>by rw[World.frozen?_setCell];exact h.zf j⟩
theorem ApS.tn {w w' w'':World} {b:Nat} {vv0 vv1 vv2 vv3 vv4 uu0 uu1 uu2 uu3 uu4:Value} (h:ApS w w' vv0 vv1 vv2 vv3 vv4 uu0 uu1 uu2 uu3 uu4) (ht:Tn (fun q=>q=b) w' w'') (hb:w.heap.size+3≤b):ApS w w'' vv0 vv1 vv2 vv3 vv4 uu0 uu1 uu2 uu3 uu4:=
 ⟨ht.cell (p:=⟨w.heap.size,0,none⟩) h.a0 (by dsimp only;omega),ht.cell (p:=⟨w.heap.size,1,none⟩) h.a1 (by dsimp only;omega),ht.cell (p:=⟨w.heap.size,2,none⟩) h.a2 (by dsimp only;omega),ht.cell (p:=⟨w.heap.size,3,none⟩) h.a3 (by dsimp only;omega),ht.cell (p:=⟨w.heap.size,4,none⟩) h.a4 (by dsimp only;omega),ht.cell (p:=⟨w.heap.size+1,0,none⟩) h.b0 (by dsimp only;omega),ht.cell (p:=⟨w.heap.size+1,1,none⟩) h.b1 (by dsimp only;omega),ht.cell (p:=⟨w.heap.size+1,2,none⟩) h.b2 (by dsimp only;omega),ht.cell (p:=⟨w.heap.size+1,3,none⟩) h.b3 (by dsimp only;omega),ht.cell (p:=⟨w.heap.size+1,4,none⟩) h.b4 (by dsimp only;omega),ht.cell (p:=⟨w.heap.size+2,0,none⟩) h.r0 (by dsimp only;omega),ht.cell (p:=⟨w.heap.size+2,1,none⟩) h.r1 (by dsimp only;omega),ht.cell (p:=⟨w.heap.size+2,2,none⟩) h.r2 (by dsimp only;omega),ht.cell (p:=⟨w.heap.size+2,3,none⟩) h.r3 (by dsimp only;omega),ht.cell (p:=⟨w.heap.size+2,4,none⟩) h.r4 (by dsimp only;omega),fun j=>(ht.frozen (p:=⟨w.heap.size+2,j,none⟩) (by have:=h.sz;dsimp only;omega) (by dsimp only;omega)).trans (h.rf j),h.bel.trans (ht.below (by have:=h.sz;omega) (fun q hq=>by omega)),Nat.le_trans h.sz ht.size⟩
def OwnP (w:World) (B ob:Nat) (fv lv nv:Value) (fs:List Fi) (fl:List Int) (ns:List KV):Prop:=bE eFi w B fv fs∧bE eVec w B lv fl∧bE eNt w B nv ns∧(∀ q,fv.ownBlock=some q→q≠ob)∧(∀ q,nv.ownBlock=some q→q≠ob)
theorem OwnP.below {w w':World} {B ob:Nat} {fv lv nv:Value} {fs:List Fi} {fl:List Int} {ns:List KV} (h:OwnP w B ob fv lv nv fs fl ns) (hb:Below w.heap.size w w'):OwnP w' B ob fv lv nv fs fl ns:=
 ⟨aD h.1 hb,aD h.2.1 hb,aD h.2.2.1 hb,h.2.2.2⟩
theorem OwnP.tn {w w':World} {B ob b:Nat} {fv lv nv:Value} {fs:List Fi} {fl:List Int} {ns:List KV} (h:OwnP w B ob fv lv nv fs fl ns) (ht:Tn (fun q=>q=b) w w') (hb:b<B):OwnP w' B ob fv lv nv fs fl ns:=
 ⟨ht.row h.1 (fun q hq e=>by have:=(h.1.lt q hq).1;omega),ht.row h.2.1 (fun q hq e=>by have:=(h.2.1.lt q hq).1;omega),ht.row h.2.2.1 (fun q hq e=>by have:=(h.2.2.1.lt q hq).1;omega),h.2.2.2⟩
structure gG (w:World) (b:Nat):Prop where
 z0:w.cell? ⟨b,0,none⟩=some (.slice none 0 0)
 z1:w.cell? ⟨b,1,none⟩=some (.int .i64 0)
 z2:w.cell? ⟨b,2,none⟩=some (.int .i64 0)
 z3:w.cell? ⟨b,3,none⟩=some (.slice none 0 0)
 z4:w.cell? ⟨b,4,none⟩=some (.slice none 0 0)
 zf:∀ j,w.frozen? ⟨b,j,none⟩=false
theorem gG.lt {w:World} {b:Nat} (h:gG w b):b<w.heap.size:=World.block_lt_of_cell? _ _ h.z0
theorem gG.made (w:World):gG (w.alloc (.cells #[.slice none 0 0,.int .i64 0,.int .i64 0,.slice none 0 0,.slice none 0 0] 35)) w.heap.size:=by
 refine⟨?_,?_,?_,?_,?_,fun j=>?_⟩
 all_goals simp[go_sem]
theorem gG.below {w w':World} {b:Nat} (h:gG w b) (hb:Below w.heap.size w w'):gG w' b:=
 ⟨(hb.cell (p:=⟨b,0,none⟩) h.lt).trans h.z0,(hb.cell (p:=⟨b,1,none⟩) h.lt).trans h.z1,(hb.cell (p:=⟨b,2,none⟩) h.lt).trans h.z2,(hb.cell (p:=⟨b,3,none⟩) h.lt).trans h.z3,(hb.cell (p:=⟨b,4,none⟩) h.lt).trans h.z4,fun j=>(hb.frozen (p:=⟨b,j,none⟩) h.lt).trans (h.zf j)⟩
theorem tn_setS {w:World} {b j:Nat} {v:Value}:Tn (fun q=>q=b) w (w.setCell ⟨b,j,none⟩ v):=Tn.setCell w ⟨b,j,none⟩ v rfl
theorem OwnP.five {w w0:World} {ob:Nat} {fv lv nv y0 y1 y2 y3 y4:Value} {fs:List Fi} {fl:List Int} {ns:List KV} {x1 x2:Int} (h:OwnP w (w0.heap.size+3) ob fv lv nv fs fl ns):
 kI (((((w.setCell ⟨w0.heap.size+2,0,none⟩ (y0)).setCell ⟨w0.heap.size+2,1,none⟩ (y1)).setCell ⟨w0.heap.size+2,2,none⟩ (y2)).setCell ⟨w0.heap.size+2,3,none⟩ (y3)).setCell ⟨w0.heap.size+2,4,none⟩ (y4)) w0.heap.size (.agg #[fv,.int .i64 x1,.int .i64 x2,lv,nv]) ⟨fs,x1,x2,fl,ns⟩:=by
 have t:=h.tn (b:=w0.heap.size+2) ((((tn_setS.trans tn_setS).trans tn_setS).trans tn_setS).trans tn_setS:Tn _ w (((((w.setCell ⟨w0.heap.size+2,0,none⟩ (y0)).setCell ⟨w0.heap.size+2,1,none⟩ (y1)).setCell ⟨w0.heap.size+2,2,none⟩ (y2)).setCell ⟨w0.heap.size+2,3,none⟩ (y3)).setCell ⟨w0.heap.size+2,4,none⟩ (y4))) (by omega)
 exact⟨_,_,_,rfl,aK t.1 (by omega),aK t.2.1 (by omega),aK t.2.2.1 (by omega)⟩
theorem rg_done {s:PS} {e:PE} {wv w':World} {fv:Value} {nx:Int} {ob cc nc ln nn:Nat} {ca na:Option Addr} (hb:Below wv.heap.size wv w') (h:gG w' ob) (hob:wv.heap.size≤ob) (hln:s.fl.length=ln) (hnn:(aZ s.ns e.ns).length=nn)
 (ho:bE eVec w' wv.heap.size (.slice ca ln cc) s.fl) (hn:bE eNt w' wv.heap.size (.slice na nn nc) (aZ s.ns e.ns)) (h1:∀ q,(Value.slice ca ln cc).ownBlock=some q→q≠ob) (h2:∀ q,(Value.slice na nn nc).ownBlock=some q→q≠ob):
 RgAns s e wv fv nx (.pointer (some ⟨ob,0,none⟩)) (((((w'.setCell ⟨ob,0,none⟩ (fv)).setCell ⟨ob,1,none⟩ (.int .i64 nx)).setCell ⟨ob,2,none⟩ (.int .i64 s.log)).setCell ⟨ob,3,none⟩ (.slice ca ln cc)).setCell ⟨ob,4,none⟩ (.slice na nn nc)):=by
 subst hln hnn
 have ht:Tn (fun q=>q=ob) w' (((((w'.setCell ⟨ob,0,none⟩ (fv)).setCell ⟨ob,1,none⟩ (.int .i64 nx)).setCell ⟨ob,2,none⟩ (.int .i64 s.log)).setCell ⟨ob,3,none⟩ (.slice ca s.fl.length cc)).setCell ⟨ob,4,none⟩ (.slice na (aZ s.ns e.ns).length nc)):=(((tn_setS.trans tn_setS).trans tn_setS).trans tn_setS).trans tn_setS
 refine⟨hb.trans (ht.below hb.size (fun q hq=>by rw[hq];exact hob)),ob,ca,na,cc,nc,rfl,hob,Nat.lt_of_lt_of_le h.lt ht.size,?_,?_,?_,?_,?_,fun j=>?_,ht.row ho (fun q hq=>h1 q hq),ht.row hn (fun q hq=>h2 q hq),h1,h2⟩
 · exact(aC (aC (aC (aC (World.cell?_setCell_same _ _ _ h.z0) (by decide)) (by decide)) (by decide)) (by decide))
 · exact(aC (aC (aC (World.cell?_setCell_same _ _ _ (aC h.z1 (by decide))) (by decide)) (by decide)) (by decide))
 · exact(aC (aC (World.cell?_setCell_same _ _ _ (aC (aC h.z2 (by decide)) (by decide))) (by decide)) (by decide))
 · exact(aC (World.cell?_setCell_same _ _ _ (aC (aC (aC h.z3 (by decide)) (by decide)) (by decide))) (by decide))
 · exact(World.cell?_setCell_same _ _ _ (aC (aC (aC (aC h.z4 (by decide)) (by decide)) (by decide)) (by decide)))
 · simp only[World.frozen?_setCell]
   exact h.zf j
def TbAns (l:List Fi) (nx er:Int) (n:Nat) (w:World) (r:Ending) (w':World):Prop:=∃ a c,r= .returned (.tuple #[.slice a n c,.int .i64 nx,.int .i64 er])∧bE eFi w' w.heap.size (.slice a n c) l∧Below w.heap.size w w'
set_option maxRecDepth 100000 in
set_option maxHeartbeats 8000000 in
theorem apply_any {w:World} {sv ev:Value} {s:PS} {e:PE} (hs:StV w sv s) (he:EdV w ev e) (hg:cR s) (ha:e.add.length≤100000) (hr:e.rem.length≤100000) (hl:e.fl.length≤100000) (hn:e.ns.length≤100000):
 Calls Tryz.prog 26 #[sv,ev] w (ApAns s e w):=by
 have HG:=aB hg
 obtain⟨fv,lv,nv,rfl,hs1,hs2,hs3⟩:=hs
 obtain⟨xv,yv,mv,ov,rfl,he1,he2,he3,he4⟩:=he
 have hsv:StV w _ s:=⟨fv,lv,nv,rfl,hs1,hs2,hs3⟩
 have hev:EdV w _ e:=⟨xv,yv,mv,ov,rfl,he1,he2,he3,he4⟩
 have HV:=aB (aA hsv hev)
 have HL2:=aB (aA hs2 he3)
 have HN:=aB (aA ha (aA hr (aA hl hn)))
 have HNT:=aB he4
 obtain⟨sa,sc,rfl,_,_⟩:=hs1.form
 obtain⟨la,lc,rfl,hl1,hl2⟩:=hs2.form
 obtain⟨na,nc,rfl,_,_⟩:=hs3.form
 obtain⟨xa,xc,rfl,hx1,hx2⟩:=he1.form
 obtain⟨ya,yc,rfl,_,_⟩:=he2.form
 obtain⟨ma,mc,rfl,hm1,hm2⟩:=he3.form
 obtain⟨oa,oc,rfl,_,_⟩:=he4.form
 obtain⟨sn,hsn⟩:∃ n,s.fs.length=n:=⟨_,rfl⟩
 obtain⟨ln,hln⟩:∃ n,s.fl.length=n:=⟨_,rfl⟩
 obtain⟨nn,hnn⟩:∃ n,s.ns.length=n:=⟨_,rfl⟩
 obtain⟨xn,hxn⟩:∃ n,e.add.length=n:=⟨_,rfl⟩
 obtain⟨yn,hyn⟩:∃ n,e.rem.length=n:=⟨_,rfl⟩
 obtain⟨mn,hmn⟩:∃ n,e.fl.length=n:=⟨_,rfl⟩
 obtain⟨on,hon⟩:∃ n,e.ns.length=n:=⟨_,rfl⟩
 rw[hsn,hln,hnn]at HV ⊢
 rw[hxn,hyn,hmn,hon]at HV ⊢
 rw[hln,hmn]at HL2
 rw[hon]at HNT
 rw[hln]at hl1
 rw[hxn]at hx1 ha
 rw[hmn]at hm1 hl
 have HQ:=aB (aA hsn (aA hln (aA hnn (aA hxn (aA hyn (aA hmn hon))))))
 clear hsv hev hs1 hs2 hs3 he1 he2 he3 he4 hg hsn hln hnn hxn hyn hmn hon hr hn
 obtain⟨w1,hw1⟩:∃ w1,w.alloc (.cells #[.slice sa sn sc,.int .i64 s.next,.int .i64 s.log,.slice la ln lc,.slice na nn nc] 35)=w1:=⟨_,rfl⟩
 obtain⟨w2,hw2⟩:∃ w2,w1.alloc (.cells #[.slice xa xn xc,.slice ya yn yc,.int .i64 e.log,.slice ma mn mc,.slice oa on oc] 56)=w2:=⟨_,rfl⟩
 obtain⟨w3,hw3⟩:∃ w3,w2.alloc (.cells #[.slice none 0 0,.int .i64 0,.int .i64 0,.slice none 0 0,.slice none 0 0] 35)=w3:=⟨_,rfl⟩
 have hz1:w1.heap.size=w.heap.size+1:=by rw[← hw1];simp
 have hz2:w2.heap.size=w.heap.size+2:=by rw[← hw2,←hw1];simp
 have hz3:w3.heap.size=w.heap.size+3:=by rw[← hw3,←hw2,←hw1];simp
 have h3:ApS w w3 (.slice sa sn sc) (.int .i64 s.next) (.int .i64 s.log) (.slice la ln lc) (.slice na nn nc) (.slice xa xn xc) (.slice ya yn yc) (.int .i64 e.log) (.slice ma mn mc) (.slice oa on oc):=by
  rw[← hw3,←hw2,←hw1]
  refine⟨?_,?_,?_,?_,?_,?_,?_,?_,?_,?_,?_,?_,?_,?_,?_,fun j=>?_,(((Below.refl _ _).alloc (Nat.le_refl _) _).alloc (by simp) _).alloc (by simp;omega) _,by simp⟩
  all_goals simp[go_sem]
 have H3:=aB h3
 clear h3
 have hR:=mright_any (HV.out.2.below H3.out.bel) (by have:=HN.out.2.2.1;omega)
 have HR:=aB hR
 have hCL:∀ w',Below w3.heap.size w3 w'→Calls Tryz.prog 133 #[.slice la ln lc] w' (ClAns s.fl w'):=fun w' hb=>vclone_any (jS ((HL2.out.1.below H3.out.bel).below hb)) (by have:=HQ.out.2.1;have:=HG.out.fl;rcases this with h9|h9<;>first|(rw[h9];simp)|(unfold iS at h9;simp only[Bool.and_eq_true,decide_eq_true_eq]at h9;omega))
 have hCM:∀ w',Below w3.heap.size w3 w'→Calls Tryz.prog 133 #[.slice ma mn mc] w' (ClAns e.fl w'):=fun w' hb=>vclone_any (jS ((HL2.out.2.below H3.out.bel).below hb)) (by have:=HN.out.2.2.1;omega)
 have hLQ:∀ w',Below w3.heap.size w3 w'→Calls Tryz.prog 135 #[.slice la ln lc,.slice ma mn mc] w' (LqAns s.fl e.fl w'):=fun w' hb=>mleq_any ((HL2.out.1.below H3.out.bel).below hb) ((HL2.out.2.below H3.out.bel).below hb) (by have:=HG.out.fl;rcases this with h9|h9<;>first|(rw[h9];simp)|(unfold iS at h9;simp only[Bool.and_eq_true,decide_eq_true_eq]at h9;omega)) (by have:=HN.out.2.2.1;omega)
 have HCL:=aB (aA hCL (aA hCM hLQ))
 clear hCL hCM hLQ
 have HZ3:=aB hz3
 clear hR hz3
 obtain⟨b0,b1,b2,b3,b4⟩:=H3.out.bs
 cases hE:bO e with
 |false=>
  have hap:aO s e=(1,s00):=by unfold aO;rw[if_pos hE]
  have HAP:=aB hap
  clear hap
  go_enter Tryz.func26,Tryz.ntmps26
  go_wp2_with (go_at_call 131;refine HR.out.mono ?_;rintro r w4 ⟨rfl,hb4⟩;rw[hE];have H4:=aB (H3.out.below hb4);obtain⟨r0,r1,r2,r3,r4,y0,y1,y2,y3,y4⟩:=H4.out.rs;clear hb4)
  (try simp only[Exit.inBlock,Exit.then])
  exact bodyPost_ret (cJ rfl rfl H4.out.load) rfl ⟨H4.out.bel5,_,by rw[HAP.out];rfl,by rw[HAP.out];exact ownSt00 _ _⟩
 |true=>
  have hro:=right_of hE
  obtain⟨⟨er,FL,nx⟩,hT⟩:∃ t,cU s e=t:=⟨_,rfl⟩
  obtain⟨tn,htn⟩:∃ t,FL.length=t:=⟨_,rfl⟩
  obtain⟨NL,hNL⟩:∃ l,aZ s.ns e.ns=l:=⟨_,rfl⟩
  obtain⟨kn,hkn⟩:∃ t,NL.length=t:=⟨_,rfl⟩
  have hTB:∀ w',Below w3.heap.size w3 w'→Calls Tryz.prog 132 #[.agg #[.slice sa sn sc,.int .i64 s.next,.int .i64 s.log,.slice la ln lc,.slice na nn nc],.agg #[.slice xa xn xc,.slice ya yn yc,.int .i64 e.log,.slice ma mn mc,.slice oa on oc]] w' (TbAns FL nx er tn w'):=by
   intro w' hb
   have hbw:=H3.out.bel.trans (hb.mono H3.out.bel.size)
   refine(tables_any (HV.out.1.below hbw) (HV.out.2.below hbw) HG.out.nums (by have:=HG.out.few;omega) HN.out.1 HN.out.2.1 HG.out.next (fun f hf=>by have:=valid_of (hro.1 f hf);omega) (fun f hf=>by
    rcases hf with hf|hf
    · have:=valid_of (HG.out.val f hf);omega
    · have:=valid_of (hro.1 f hf);omega)).mono ?_
   rintro r w'' ⟨h1,fv,rfl,h2⟩
   rw[hT]at h2 ⊢
   obtain⟨a,c,rfl,_,_⟩:=aI h2
   simp only at h2
   exact⟨a,c,by rw[htn],by rw[← htn];exact h2,h1⟩
  have hNT:∀ w',Below w3.heap.size w3 w'→Calls Tryz.prog 134 #[.agg #[.slice sa sn sc,.int .i64 s.next,.int .i64 s.log,.slice la ln lc,.slice na nn nc],.agg #[.slice xa xn xc,.slice ya yn yc,.int .i64 e.log,.slice ma mn mc,.slice oa on oc]] w' (NtAns NL w'):=by
   intro w' hb
   have hbw:=H3.out.bel.trans (hb.mono H3.out.bel.size)
   refine(notes_any (HV.out.1.below hbw) (HV.out.2.below hbw) (by have:=HG.out.nfew;omega) (by have:=HN.out.2.2.2;omega) (fun p hp=>by
    rcases List.mem_append.1 hp with hp|hp
    · have:=lK (HG.out.note p hp).1;omega
    · have:=lK (hro.2.2.2 p hp);omega)).mono ?_
   rintro r w'' ⟨h1,v,rfl,h2⟩
   rw[hNL]at h2
   obtain⟨a,c,rfl,_,_⟩:=aI h2
   exact⟨a,c,rfl,h2,h1⟩
  have HTB:=aB (aA hTB hNT)
  have HRO:=aB hro
  have HTT:=aB (aA hT (aA htn (aA hNL hkn)))
  clear hro hTB hNT hT htn hNL hkn
  go_enter Tryz.func26,Tryz.ntmps26
  go_upto_region 4 with(first
   |(go_at_call 132;refine(HTB.out.1 _ HB4.out).mono ?_;rintro r w5 ⟨fa,fc,rfl,ho5,hb5⟩;have H5:=aB (aA (H4.out.below hb5) (aA ho5 (aA hb5 (HB4.out.trans (hb5.mono HB4.out.size)))));clear ho5 hb5)
   |(go_at_call 131;refine HR.out.mono ?_;rintro r w4 ⟨rfl,hb4⟩;rw[hE];have H4:=aB (H3.out.below hb4);have HB4:=aB hb4;clear b0 b1 b2 b3 b4;obtain⟨a0,a1,a2,a3,a4⟩:=H4.out.as;obtain⟨b0,b1,b2,b3,b4⟩:=H4.out.bs;clear hb4))
  clear a0 a1 a2 a3 a4 b0 b1 b2 b3 b4 hw1 hw2 hw3
  go_cut [9] (fun y9 wx=>RgAns s e w5 (.slice fa tn fc) nx y9 wx)
  case first=>
   have hd:ApS w w5.drew (.slice sa sn sc) (.int .i64 s.next) (.int .i64 s.log) (.slice la ln lc) (.slice na nn nc) (.slice xa xn xc) (.slice ya yn yc) (.int .i64 e.log) (.slice ma mn mc) (.slice oa on oc):=H5.out.1.below (Below.refl _ _).drew
   have hdb:Below w3.heap.size w3 w5.drew:=H5.out.2.2.2.trans ((Below.refl w5.heap.size w5).drew.mono H5.out.2.2.2.size)
   have HD:=aB (aA hd hdb)
   clear hd hdb
   refine dQ (fun w'=>w'.cell? ⟨w.heap.size,0,none⟩=some (.slice sa sn sc)∧w'.cell? ⟨w.heap.size,1,none⟩=some (.int .i64 s.next)∧w'.cell? ⟨w.heap.size,2,none⟩=some (.int .i64 s.log)∧w'.cell? ⟨w.heap.size,3,none⟩=some (.slice la ln lc)∧w'.cell? ⟨w.heap.size,4,none⟩=some (.slice na nn nc)∧w'.cell? ⟨w.heap.size+1,0,none⟩=some (.slice xa xn xc)∧w'.cell? ⟨w.heap.size+1,1,none⟩=some (.slice ya yn yc)∧w'.cell? ⟨w.heap.size+1,2,none⟩=some (.int .i64 e.log)∧w'.cell? ⟨w.heap.size+1,3,none⟩=some (.slice ma mn mc)∧w'.cell? ⟨w.heap.size+1,4,none⟩=some (.slice oa on oc)) 12 13 ⟨HD.out.1.a0,HD.out.1.a1,HD.out.1.a2,HD.out.1.a3,HD.out.1.a4,HD.out.1.b0,HD.out.1.b1,HD.out.1.b2,HD.out.1.b3,HD.out.1.b4⟩ (fun hH=>?_)
   refine bU [[0],[1],[2],[3],[4],[5],[7],[8]] hH ?_
   obtain⟨wz,hwz⟩:∃ wz,w5.drew=wz:=⟨_,rfl⟩
   have hwb5:Below w5.heap.size w5 wz:=by rw[← hwz];exact(Below.refl _ _).drew
   have hws:wz.heap.size=w5.heap.size:=by rw[← hwz];rfl
   rw[hwz]at HD hH ⊢
   have HW5:=aB (aA hwb5 hws)
   clear hwz hwb5 hws
   refine dX (rs:=[6,11]) (by kernel_rfl) (by simp) (fun i hi=>?_)
   rcases List.mem_cons.1 hi with rfl|hi2
   · refine gD rfl (fun K hK=>?_) (by kernel_rfl)
     go_simp
     go_at_call 133
     refine(HCL.out.1 _ HD.out.2).mono ?_
     rintro r w6 ⟨ca,cc,rfl,ho6,hb6⟩
     simp only[]
     rw[HQ.out.2.1]at ho6 ⊢
     have HA6:=aB (aA (HD.out.1.below hb6) (HD.out.2.trans (hb6.mono HD.out.2.size)))
     have HO6:=aB (aA ho6 hb6)
     clear ho6 hb6
     refine bH hK ⟨HA6.out.1.a0,HA6.out.1.a1,HA6.out.1.a2,HA6.out.1.a3,HA6.out.1.a4,HA6.out.1.b0,HA6.out.1.b1,HA6.out.1.b2,HA6.out.1.b3,HA6.out.1.b4⟩ ?_
     clear hK K
     intro hH
     refine dX (rs:=[9,11]) (by kernel_rfl) (by simp) (fun i hi=>?_)
     rcases List.mem_cons.1 hi with rfl|hi2
     · refine gD rfl (fun K hK=>?_) (by kernel_rfl)
       go_simp
       go_at_call 134
       refine(HTB.out.2 _ HA6.out.2).mono ?_
       rintro r w9 ⟨da,dc,rfl,ho9,hb9⟩
       simp only[]
       rw[HTT.out.2.2.2]at ho9 ⊢
       have HA9:=aB (aA (HA6.out.1.below hb9) (HA6.out.2.trans (hb9.mono HA6.out.2.size)))
       have HO9:=aB (aA ho9 hb9)
       clear ho9 hb9
       refine bH hK ⟨HA9.out.1.a0,HA9.out.1.a1,HA9.out.1.a2,HA9.out.1.a3,HA9.out.1.a4,HA9.out.1.b0,HA9.out.1.b1,HA9.out.1.b2,HA9.out.1.b3,HA9.out.1.b4⟩ ?_
       clear hK K
       intro hH
       refine bU [[10]] hH ?_
       refine bM (i:=11) rfl (fun K hK=>?_)
       go_simp
       obtain⟨obk,hobk⟩:∃ k,w9.heap.size=k:=⟨_,rfl⟩
       rw[hobk]
       have HOBK:=aB hobk
       clear hobk
       obtain⟨wb,hwb⟩:∃ wb,w9.alloc (.cells #[.slice none 0 0,.int .i64 0,.int .i64 0,.slice none 0 0,.slice none 0 0] 35)=wb:=⟨_,rfl⟩
       rw[hwb]
       have hbb:Below w9.heap.size w9 wb:=by rw[← hwb];exact(Below.refl _ _).alloc (Nat.le_refl _) _
       have hoz:gG wb obk:=by rw[← HOBK.out,←hwb];exact gG.made _
       have HA11:=aB (aA (HA9.out.1.below hbb) (HA9.out.2.trans (hbb.mono HA9.out.2.size)))
       have HZ:=aB (aA hoz hbb)
       clear hoz hbb hwb
       refine bH hK ⟨HA11.out.1.a0,HA11.out.1.a1,HA11.out.1.a2,HA11.out.1.a3,HA11.out.1.a4,HA11.out.1.b0,HA11.out.1.b1,HA11.out.1.b2,HA11.out.1.b3,HA11.out.1.b4⟩ ?_
       clear hK K
       intro hH
       have hoz:gG wb obk:=HZ.out.1
       have HOZ:=aB hoz
       have z0:=hoz.z0
       have z1:=hoz.z1
       have z2:=hoz.z2
       have z3:=hoz.z3
       have z4:=hoz.z4
       have zf0:=hoz.zf 0
       have zf1:=hoz.zf 1
       have zf2:=hoz.zf 2
       have zf3:=hoz.zf 3
       have zf4:=hoz.zf 4
       clear hoz
       refine eU ?_
       clear hH
       go_wp2_with fail
       go_meet
       case rel=>exact rg_done (s:=s) (e:=e) (wv:=w5) (fv:= .slice fa tn fc) (nx:=nx) (HW5.out.1.trans ((HO6.out.2.mono (by have:=HW5.out.2;omega)).trans ((HO9.out.2.mono (by have:=HW5.out.2;have:=HO6.out.2.size;omega)).trans (HZ.out.2.mono (by have:=HW5.out.2;have:=HO6.out.2.size;have:=HO9.out.2.size;omega))))) HOZ.out (by have:=HOBK.out;have:=HW5.out.2;have:=HO6.out.2.size;have:=HO9.out.2.size;omega) HQ.out.2.1 (by rw[HTT.out.2.2.1,HTT.out.2.2.2]) (aK (aD (aD HO6.out.1 HO9.out.2) HZ.out.2) (by have:=HW5.out.2;omega)) (by rw[HTT.out.2.2.1];exact(aK (aD HO9.out.1 HZ.out.2) (by have:=HW5.out.2;have:=HO6.out.2.size;omega))) (fun q hq=>by have:=(HO6.out.1.lt q hq).2;have:=HO9.out.2.size;have:=HOBK.out;omega) (fun q hq=>by have:=(HO9.out.1.lt q hq).2;have:=HOBK.out;omega)
     · obtain rfl:=List.mem_singleton.1 hi2
       refine gD rfl (fun K hK=>?_) (by kernel_rfl)
       go_simp
       obtain⟨obk,hobk⟩:∃ k,w6.heap.size=k:=⟨_,rfl⟩
       rw[hobk]
       have HOBK:=aB hobk
       clear hobk
       obtain⟨wb,hwb⟩:∃ wb,w6.alloc (.cells #[.slice none 0 0,.int .i64 0,.int .i64 0,.slice none 0 0,.slice none 0 0] 35)=wb:=⟨_,rfl⟩
       rw[hwb]
       have hbb:Below w6.heap.size w6 wb:=by rw[← hwb];exact(Below.refl _ _).alloc (Nat.le_refl _) _
       have hoz:gG wb obk:=by rw[← HOBK.out,←hwb];exact gG.made _
       have HA11:=aB (aA (HA6.out.1.below hbb) (HA6.out.2.trans (hbb.mono HA6.out.2.size)))
       have HZ:=aB (aA hoz hbb)
       clear hoz hbb hwb
       refine bH hK ⟨HA11.out.1.a0,HA11.out.1.a1,HA11.out.1.a2,HA11.out.1.a3,HA11.out.1.a4,HA11.out.1.b0,HA11.out.1.b1,HA11.out.1.b2,HA11.out.1.b3,HA11.out.1.b4⟩ ?_
       clear hK K
       intro hH
       refine bM (i:=9) rfl (fun K hK=>?_)
       go_simp
       go_at_call 134
       refine(HTB.out.2 _ HA11.out.2).mono ?_
       rintro r w9 ⟨da,dc,rfl,ho9,hb9⟩
       simp only[]
       rw[HTT.out.2.2.2]at ho9 ⊢
       have HA9:=aB (aA (HA11.out.1.below hb9) (HA11.out.2.trans (hb9.mono HA11.out.2.size)))
       have HO9:=aB (aA ho9 hb9)
       clear ho9 hb9
       refine bH hK ⟨HA9.out.1.a0,HA9.out.1.a1,HA9.out.1.a2,HA9.out.1.a3,HA9.out.1.a4,HA9.out.1.b0,HA9.out.1.b1,HA9.out.1.b2,HA9.out.1.b3,HA9.out.1.b4⟩ ?_
       clear hK K
       intro hH
       refine bU [[10]] hH ?_
       have hoz:gG w9 obk:=HZ.out.1.below HO9.out.2
       have HOZ:=aB hoz
       have z0:=hoz.z0
       have z1:=hoz.z1
       have z2:=hoz.z2
       have z3:=hoz.z3
       have z4:=hoz.z4
       have zf0:=hoz.zf 0
       have zf1:=hoz.zf 1
       have zf2:=hoz.zf 2
       have zf3:=hoz.zf 3
       have zf4:=hoz.zf 4
       clear hoz
       refine eU ?_
       clear hH
       go_wp2_with fail
       go_meet
       case rel=>exact rg_done (s:=s) (e:=e) (wv:=w5) (fv:= .slice fa tn fc) (nx:=nx) (HW5.out.1.trans ((HO6.out.2.mono (by have:=HW5.out.2;omega)).trans ((HZ.out.2.mono (by have:=HW5.out.2;have:=HO6.out.2.size;omega)).trans (HO9.out.2.mono (by have:=HW5.out.2;have:=HO6.out.2.size;have:=HZ.out.2.size;omega))))) HOZ.out (by have:=HOBK.out;have:=HW5.out.2;have:=HO6.out.2.size;omega) HQ.out.2.1 (by rw[HTT.out.2.2.1,HTT.out.2.2.2]) (aK (aD (aD HO6.out.1 HZ.out.2) HO9.out.2) (by have:=HW5.out.2;omega)) (by rw[HTT.out.2.2.1];exact(aK HO9.out.1 (by have:=HW5.out.2;have:=HO6.out.2.size;have:=HZ.out.2.size;omega))) (fun q hq=>by have:=(HO6.out.1.lt q hq).2;have:=HOBK.out;omega) (fun q hq=>by have:=(HO9.out.1.lt q hq).1;have:=HZ.out.1.lt;omega)
   · obtain rfl:=List.mem_singleton.1 hi2
     refine gD rfl (fun K hK=>?_) (by kernel_rfl)
     go_simp
     obtain⟨obk,hobk⟩:∃ k,wz.heap.size=k:=⟨_,rfl⟩
     rw[hobk]
     have HOBK:=aB hobk
     clear hobk
     obtain⟨wb,hwb⟩:∃ wb,wz.alloc (.cells #[.slice none 0 0,.int .i64 0,.int .i64 0,.slice none 0 0,.slice none 0 0] 35)=wb:=⟨_,rfl⟩
     rw[hwb]
     have hbb:Below wz.heap.size wz wb:=by rw[← hwb];exact(Below.refl _ _).alloc (Nat.le_refl _) _
     have hoz:gG wb obk:=by rw[← HOBK.out,←hwb];exact gG.made _
     have HA11:=aB (aA (HD.out.1.below hbb) (HD.out.2.trans (hbb.mono HD.out.2.size)))
     have HZ:=aB (aA hoz hbb)
     clear hoz hbb hwb
     refine bH hK ⟨HA11.out.1.a0,HA11.out.1.a1,HA11.out.1.a2,HA11.out.1.a3,HA11.out.1.a4,HA11.out.1.b0,HA11.out.1.b1,HA11.out.1.b2,HA11.out.1.b3,HA11.out.1.b4⟩ ?_
     clear hK K
     intro hH
     refine bM (i:=6) rfl (fun K hK=>?_)
     go_simp
     go_at_call 133
     refine(HCL.out.1 _ HA11.out.2).mono ?_
     rintro r w6 ⟨ca,cc,rfl,ho6,hb6⟩
     simp only[]
     rw[HQ.out.2.1]at ho6 ⊢
     have HA6:=aB (aA (HA11.out.1.below hb6) (HA11.out.2.trans (hb6.mono HA11.out.2.size)))
     have HO6:=aB (aA ho6 hb6)
     clear ho6 hb6
     refine bH hK ⟨HA6.out.1.a0,HA6.out.1.a1,HA6.out.1.a2,HA6.out.1.a3,HA6.out.1.a4,HA6.out.1.b0,HA6.out.1.b1,HA6.out.1.b2,HA6.out.1.b3,HA6.out.1.b4⟩ ?_
     clear hK K
     intro hH
     refine bM (i:=9) rfl (fun K hK=>?_)
     go_simp
     go_at_call 134
     refine(HTB.out.2 _ HA6.out.2).mono ?_
     rintro r w9 ⟨da,dc,rfl,ho9,hb9⟩
     simp only[]
     rw[HTT.out.2.2.2]at ho9 ⊢
     have HA9:=aB (aA (HA6.out.1.below hb9) (HA6.out.2.trans (hb9.mono HA6.out.2.size)))
     have HO9:=aB (aA ho9 hb9)
     clear ho9 hb9
     refine bH hK ⟨HA9.out.1.a0,HA9.out.1.a1,HA9.out.1.a2,HA9.out.1.a3,HA9.out.1.a4,HA9.out.1.b0,HA9.out.1.b1,HA9.out.1.b2,HA9.out.1.b3,HA9.out.1.b4⟩ ?_
     clear hK K
     intro hH
     refine bU [[10]] hH ?_
     have hoz:gG w9 obk:=(HZ.out.1.below HO6.out.2).below HO9.out.2
     have HOZ:=aB hoz
     have z0:=hoz.z0
     have z1:=hoz.z1
     have z2:=hoz.z2
     have z3:=hoz.z3
     have z4:=hoz.z4
     have zf0:=hoz.zf 0
     have zf1:=hoz.zf 1
     have zf2:=hoz.zf 2
     have zf3:=hoz.zf 3
     have zf4:=hoz.zf 4
     clear hoz
     refine eU ?_
     clear hH
     go_wp2_with fail
     go_meet
     case rel=>exact rg_done (s:=s) (e:=e) (wv:=w5) (fv:= .slice fa tn fc) (nx:=nx) (HW5.out.1.trans ((HZ.out.2.mono (by have:=HW5.out.2;omega)).trans ((HO6.out.2.mono (by have:=HW5.out.2;have:=HZ.out.2.size;omega)).trans (HO9.out.2.mono (by have:=HW5.out.2;have:=HZ.out.2.size;have:=HO6.out.2.size;omega))))) HOZ.out (by have:=HOBK.out;have:=HW5.out.2;omega) HQ.out.2.1 (by rw[HTT.out.2.2.1,HTT.out.2.2.2]) (aK (aD HO6.out.1 HO9.out.2) (by have:=HW5.out.2;have:=HZ.out.2.size;omega)) (by rw[HTT.out.2.2.1];exact(aK HO9.out.1 (by have:=HW5.out.2;have:=HZ.out.2.size;have:=HO6.out.2.size;omega))) (fun q hq=>by have:=(HO6.out.1.lt q hq).1;have:=HZ.out.1.lt;omega) (fun q hq=>by have:=(HO9.out.1.lt q hq).1;have:=HZ.out.1.lt;have:=HO6.out.2.size;omega)
  case rest=>
   obtain⟨hbx,ob,ca,da,cc,dc,rfl,ho1,ho2,o0,o1,o2,o3,o4,of0,ox1,ox2,oy1,oy2⟩:=hcut
   rw[HQ.out.2.1]at o3 ox1 oy1
   rw[HTT.out.2.2.1,HTT.out.2.2.2]at o4 ox2 oy2
   have HOY:=aB (aA oy1 oy2)
   have HX:=aB (aA (H5.out.1.below hbx) (aA ox1 (aA ox2 (aA hbx (aA of0 (aA ho1 ho2))))))
   have HB3:=aB (H5.out.2.2.2.trans (hbx.mono H5.out.2.2.2.size))
   have hofa:bE eFi wc w4.heap.size (.slice fa tn fc) FL:=aD H5.out.2.1 hbx
   have HFA:=aB hofa
   clear hbx ox1 ox2 of0 ho1 ho2 hofa oy1 oy2
   by_cases her:er=0
   · subst her
     go_upto_region 7 with fail
     obtain⟨bad,hbad⟩:∃ b:Bool,(b=true↔(e.fl≠[]∧s.fl≠[]∧¬ leZ s.fl e.fl)):=by
      by_cases h9:(e.fl≠[]∧s.fl≠[]∧¬ leZ s.fl e.fl)
      · exact⟨true,fun _=>h9,fun _=>rfl⟩
      · exact⟨false,(fun h=>by cases h),fun h=>absurd h h9⟩
     have HBAD:=aB hbad
     clear hbad
     obtain⟨a0,a1,a2,a3,a4⟩:=HX.out.1.as
     obtain⟨b0,b1,b2,b3,b4⟩:=HX.out.1.bs
     go_cut [37] (fun c wx=>c= .bool bad∧wx=wc)
     case first=>
      by_cases m0:mn=0
      · have hml:e.fl=[]:=List.eq_nil_of_length_eq_zero (by rw[HQ.out.2.2.2.2.2.1];exact m0)
        have zm:¬ (0:Int)<(mn:Int):=by omega
        have HML:=aB hml
        clear hml m0
        have hb:bad=false:=Bool.eq_false_iff.2 (fun h9=>absurd (HBAD.out.1 h9) (fun h8=>absurd HML.out h8.1))
        subst hb
        go_wp2_with fail
        go_meet
        case rel=>exact⟨rfl,rfl⟩
      · have zm:(0:Int)<(mn:Int):=by omega
        by_cases l0:ln=0
        · have hll:s.fl=[]:=List.eq_nil_of_length_eq_zero (by rw[HQ.out.2.1];exact l0)
          have zl:¬ (0:Int)<(ln:Int):=by omega
          have HLL:=aB hll
          clear hll l0
          have hb:bad=false:=Bool.eq_false_iff.2 (fun h9=>absurd (HBAD.out.1 h9) (fun h8=>absurd HLL.out h8.2.1))
          subst hb
          go_wp2_with fail
          go_meet
          case rel=>exact⟨rfl,rfl⟩
        · have zl:(0:Int)<(ln:Int):=by omega
          by_cases hlq:leZ s.fl e.fl
          · have HLZ:=aB hlq
            have hq:Calls Tryz.prog 135 #[.slice la ln lc,.slice ma mn mc] wc fun r w'=>r= .returned (.bool true)∧w'=wc:=(HCL.out.2.2 _ HB3.out).mono (by rintro r w' ⟨b,rfl,h9,rfl⟩;exact⟨by rw[h9.2 HLZ.out],rfl⟩)
            have HLQ:=aB hq
            clear hlq hq
            have hb:bad=false:=Bool.eq_false_iff.2 (fun h9=>absurd (HBAD.out.1 h9) (fun h8=>h8.2.2 HLZ.out))
            subst hb
            go_wp2_with (go_at_call 135;refine HLQ.out.mono ?_;rintro r w2x ⟨rfl,rfl⟩)
            go_meet
            case rel=>exact⟨rfl,rfl⟩
          · have hb:bad=true:=HBAD.out.2 (⟨fun h9=>m0 (by rw[← HQ.out.2.2.2.2.2.1,h9];rfl),fun h9=>l0 (by rw[← HQ.out.2.1,h9];rfl),hlq⟩)
            subst hb
            have hq:Calls Tryz.prog 135 #[.slice la ln lc,.slice ma mn mc] wc fun r w'=>r= .returned (.bool false)∧w'=wc:=(HCL.out.2.2 _ HB3.out).mono (by rintro r w' ⟨b,rfl,h9,rfl⟩;exact⟨by rw[Bool.eq_false_iff.2 (fun h8=>hlq (h9.1 h8))],rfl⟩)
            have HLQ:=aB hq
            clear hlq hq
            go_wp2_with (go_at_call 135;refine HLQ.out.mono ?_;rintro r w2x ⟨rfl,rfl⟩)
            go_meet
            case rel=>exact⟨rfl,rfl⟩
     case rest=>
      obtain⟨rfl,rfl⟩:=hcut
      cases bad with
      |true=>
       have hap:aO s e=(32,s00):=by
        unfold aO
        rw[if_neg (by rw[hE];simp),HTT.out.1,if_neg (by simp)]
        exact if_pos (.inl (HBAD.out.1 rfl))
       have HAP:=aB hap
       clear hap
       obtain⟨r0,r1,r2,r3,r4,y0,y1,y2,y3,y4⟩:=HX.out.1.rs
       go_wp2_with fail
       (try simp only[Exit.inBlock,Exit.then])
       exact bodyPost_ret (cJ rfl rfl HX.out.1.load) rfl (lX HX.out.1 HAP.out rfl)
      |false=>
       go_upto_region 8 with fail
       go_cut [37] (fun c wx=>c= .bool (decide (0<e.log)&&decide (e.log<s.log))∧wx=wc)
       case first=>
        by_cases k1:0<e.log
        · by_cases k2:e.log<s.log
          · go_wp2_with fail
            go_meet
            case rel=>exact⟨by rw[decide_eq_true k1,decide_eq_true k2];rfl,rfl⟩
          · go_wp2_with fail
            go_meet
            case rel=>exact⟨by rw[decide_eq_true k1,decide_eq_false (Int.not_lt.2 k2)];rfl,rfl⟩
        · go_wp2_with fail
          go_meet
          case rel=>exact⟨by rw[decide_eq_false (Int.not_lt.2 k1)];rfl,rfl⟩
       case rest=>
        obtain⟨rfl,rfl⟩:=hcut
        cases hlb:decide (0<e.log)&&decide (e.log<s.log)with
        |true=>
         have hlg:0<e.log∧e.log<s.log:=by simpa[Bool.and_eq_true]using hlb
         have hap:aO s e=(32,s00):=by
          unfold aO
          rw[if_neg (by rw[hE];simp),HTT.out.1,if_neg (by simp)]
          exact if_pos (.inr hlg)
         have HAP:=aB hap
         clear hap hlg hlb
         obtain⟨r0,r1,r2,r3,r4,y0,y1,y2,y3,y4⟩:=HX.out.1.rs
         go_wp2_with fail
         (try simp only[Exit.inBlock,Exit.then])
         exact bodyPost_ret (cJ rfl rfl HX.out.1.load) rfl (lX HX.out.1 HAP.out rfl)
        |false=>
         have hnb:¬ kY s e:=by
          rintro(h9|h9)
          · exact absurd (HBAD.out.2 h9) (by simp)
          · rw[decide_eq_true h9.1,decide_eq_true h9.2]at hlb
            exact absurd hlb (by simp)
         have HNB:=aB hnb
         clear hnb hlb
         have hbl:FL.length≤200000:=by
          have h1:=tabF_len HTT.out.1 HG.out.nums
          have:=HG.out.few
          have:=HN.out.1
          omega
         have hkl:NL.length≤200000:=by
          have h1:=notesF_len s.ns e.ns
          have:=HG.out.nfew
          have:=HN.out.2.2.2
          rw[HTT.out.2.2.1]at h1
          omega
         have hkt:∀ p∈NL,p.2.size≤20000:=by
          intro p hp
          rw[← HTT.out.2.2.1]at hp
          rcases List.mem_append.1 (kD (notesF_mem hp).1)with h3|h3
          · exact(lK (HG.out.note p h3).1).2
          · exact(lK (HRO.out.2.2.2 p h3)).2
         have HBL:=aB (aA hbl (aA hkl (textsN_mul hkt)))
         have het:=aB (textsN_mul (fun p hp=>(lK (HRO.out.2.2.2 p hp)).2))
         have hop:OwnP wc (w.heap.size+3) ob (.slice fa tn fc) (.slice ca ln cc) (.slice da kn dc) FL s.fl NL:=by
          have h1:=HZ3.out
          have h2:=HB4.out.size
          have h3:=H5.out.2.2.1.size
          refine⟨aK HFA.out (by omega),aK HX.out.2.1 (by omega),aK HX.out.2.2.1 (by omega),fun q hq=>?_,HOY.out.2⟩
          have:=(H5.out.2.1.lt q hq).2
          have:=HX.out.2.2.2.2.2.1
          omega
         have hob3:w.heap.size+3≤ob:=by
          have h1:=HZ3.out
          have h2:=HB4.out.size
          have h3:=H5.out.2.2.1.size
          have:=HX.out.2.2.2.2.2.1
          omega
         have HOP:=aB (aA hop hob3)
         have HOB:Hid (eH wc ob (.slice fa tn fc) (.int .i64 nx) (.int .i64 s.log) (.slice ca ln cc) (.slice da kn dc)):=⟨o0,o1,o2,o3,o4,HX.out.2.2.2.2.1⟩
         clear hbl hkl hkt hop hob3
         by_cases hAp:fI FL
         · have hmt:Calls Tryz.prog 136 #[.slice fa tn fc] wc fun r w'=>r= .returned (.bool false)∧Below wc.heap.size wc w':=by
            have h1:=mmeet_any HFA.out.rda (by have:=HBL.out.1;omega)
            exact h1.mono (by rintro r w' ⟨h9|h9,hb⟩;exact⟨h9.2,hb⟩;exact absurd hAp h9.1)
           have HMT:=aB hmt
           have HAPF:=aB hAp
           clear hmt hAp
           go_upto_region 12 with(go_at_call 136;refine HMT.out.mono ?_;rintro r wd ⟨rfl,hbd⟩;have HX2:=aB (aA (HX.out.1.below hbd) (aA (HOP.out.1.below hbd) (aA (HOB.out.below hbd) hbd)));clear hbd)
           clear o0 o1 o2 o3 o4 a0 a1 a2 a3 a4 b0 b1 b2 b3 b4
           obtain⟨b0,b1,b2,b3,b4⟩:=HX2.out.1.bs
           have o4:=HX2.out.2.2.1.z4
           obtain⟨lb,hlb⟩:∃ b:Bool,(b=true↔dM e FL NL):=by
            by_cases h9:dM e FL NL
            · exact⟨true,fun _=>h9,fun _=>rfl⟩
            · exact⟨false,(fun h=>by cases h),fun h=>absurd h h9⟩
           have HLB:=aB hlb
           clear hlb
           go_cut [71] (fun c wx=>c= .bool lb∧Below wd.heap.size wd wx)
           case first=>
            by_cases q1:50<xn
            · have z1:(50:Int)<(xn:Int):=by omega
              have hb:lb=true:=HLB.out.2 (.inl (by rw[HQ.out.2.2.2.1];exact q1))
              subst hb
              go_wp2_with fail
              go_meet
              case rel=>exact⟨rfl,Below.refl _ _⟩
            · have z1:¬ (50:Int)<(xn:Int):=by omega
              have hl1:Calls Tryz.prog 137 #[.slice oa on oc] wd fun r w'=>r= .returned (.bool (decide (50000<aJ e.ns)))∧Below wd.heap.size wd w':=long_any (HNT.out.below HX2.out.1.bel) (by have:=HN.out.2.2.2;omega) (by have:=HN.out.2.2.2;have:=het.out;omega)
              by_cases q2:50000<aJ e.ns
              · rw[decide_eq_true q2]at hl1
                have HL1:=aB hl1
                have hb:lb=true:=HLB.out.2 (.inr (.inl q2))
                subst hb
                clear hl1 q2
                go_wp2_with (go_at_call 137;refine HL1.out.mono ?_;rintro r we ⟨rfl,hbe⟩;have HE1:=aB hbe;have o4:=(HX2.out.2.2.1.below hbe).z4;clear hbe)
                go_meet
                case rel=>exact⟨rfl,HE1.out⟩
              · rw[decide_eq_false q2]at hl1
                have HL1:=aB hl1
                have Q2:=aB q2
                clear hl1 q2
                by_cases q3:500<tn
                · have z3:(500:Int)<(tn:Int):=by omega
                  have hb:lb=true:=HLB.out.2 (.inr (.inr (.inl (by rw[HTT.out.2.1];exact q3))))
                  subst hb
                  go_wp2_with (go_at_call 137;refine HL1.out.mono ?_;rintro r we ⟨rfl,hbe⟩;have HE1:=aB hbe;have o4:=(HX2.out.2.2.1.below hbe).z4;clear hbe)
                  go_meet
                  case rel=>exact⟨rfl,HE1.out⟩
                · have z3:¬ (500:Int)<(tn:Int):=by omega
                  by_cases q4:50<kn
                  · have z4:(50:Int)<(kn:Int):=by omega
                    have hb:lb=true:=HLB.out.2 (.inr (.inr (.inr (.inl (by rw[HTT.out.2.2.2];exact q4)))))
                    subst hb
                    go_wp2_with (go_at_call 137;refine HL1.out.mono ?_;rintro r we ⟨rfl,hbe⟩;have HE1:=aB hbe;have o4:=(HX2.out.2.2.1.below hbe).z4;clear hbe)
                    go_meet
                    case rel=>exact⟨rfl,HE1.out⟩
                  · have z4:¬ (50:Int)<(kn:Int):=by omega
                    have hl2:∀ w',Below wd.heap.size wd w'→Calls Tryz.prog 137 #[.slice da kn dc] w' fun r w''=>r= .returned (.bool lb)∧Below w'.heap.size w' w'':=by
                     intro w' hb
                     have h1:=long_any (HX2.out.2.1.below hb).2.2.1.rda (by have:=HBL.out.2.1;omega) (by have:=HBL.out.2.1;have:=HBL.out.2.2;omega)
                     by_cases q5:50000<aJ NL
                     · rw[decide_eq_true q5]at h1
                       rwa [show lb=true from HLB.out.2 (.inr (.inr (.inr (.inr q5))))]
                     · rw[decide_eq_false q5]at h1
                       have:lb=false:=Bool.eq_false_iff.2 (fun h9=>by
                        rcases HLB.out.1 h9 with h8|h8|h8|h8|h8
                        · rw[HQ.out.2.2.2.1]at h8;exact q1 h8
                        · exact Q2.out h8
                        · rw[HTT.out.2.1]at h8;exact q3 h8
                        · rw[HTT.out.2.2.2]at h8;exact q4 h8
                        · exact q5 h8)
                       rwa [this]
                    have HL2b:=aB hl2
                    clear hl2
                    go_wp2_with (first
                     |(go_at_call 137;refine(HL2b.out _ HE1.out).mono ?_;rintro r wf ⟨rfl,hbf⟩;have HE2:=aB hbf;clear hbf)
                     |(go_at_call 137;refine HL1.out.mono ?_;rintro r we ⟨rfl,hbe⟩;have HE1:=aB hbe;have o4:=(HX2.out.2.2.1.below hbe).z4;clear hbe))
                    go_meet
                    case rel=>exact⟨by rw[decide_eq_false (p:=(500:Int)<(tn:Int)) (by omega),decide_eq_false (p:=(50:Int)<(kn:Int)) (by omega)];rfl,HE1.out.trans (HE2.out.mono HE1.out.size)⟩
           case rest=>
            obtain⟨rfl,hbe⟩:=hcut
            have HX3:=aB (aA (HX2.out.1.below hbe) (aA (HX2.out.2.1.below hbe) (HX2.out.2.2.1.below hbe)))
            have HB5:=aB (HB3.out.trans ((HX2.out.2.2.2.trans (hbe.mono HX2.out.2.2.2.size)).mono HB3.out.size))
            clear hbe o4 b0 b1 b2 b3 b4
            cases lb with
            |true=>
             have hap:aO s e=(2,s00):=by
              unfold aO
              rw[if_neg (by rw[hE];simp),HTT.out.1,if_neg (by simp),if_neg HNB.out,if_neg (fun h9=>h9 HAPF.out),HTT.out.2.2.1]
              exact if_pos (HLB.out.1 rfl)
             have HAP:=aB hap
             clear hap
             obtain⟨r0,r1,r2,r3,r4,y0,y1,y2,y3,y4⟩:=HX3.out.1.rs
             go_wp2_with fail
             (try simp only[Exit.inBlock,Exit.then])
             exact bodyPost_ret (cJ rfl rfl HX3.out.1.load) rfl (lX HX3.out.1 HAP.out rfl)
            |false=>
             have hnl:¬ dM e FL NL:=fun h9=>absurd (HLB.out.2 h9) (by simp)
             have hap:aO s e=(0,⟨FL,nx,if 0<e.log then e.log else s.log,if e.fl≠[]then e.fl else s.fl,NL⟩):=by
              unfold aO
              rw[if_neg (by rw[hE];simp),HTT.out.1,if_neg (by simp),if_neg HNB.out,if_neg (fun h9=>h9 HAPF.out),HTT.out.2.2.1,if_neg hnl]
             have HAP0:=aB hap
             clear hap hnl
             have b3:=HX3.out.1.b3
             go_upto_if 101 with fail
             go_cut [] (fun wx=>∃ (ga:Option Addr) (gn gc:Nat) (gl:List Int),gl=(if e.fl≠[]then e.fl else s.fl)∧ApS w wx (.slice sa sn sc) (.int .i64 s.next) (.int .i64 s.log) (.slice la ln lc) (.slice na nn nc) (.slice xa xn xc) (.slice ya yn yc) (.int .i64 e.log) (.slice ma mn mc) (.slice oa on oc)∧OwnP wx (w.heap.size+3) ob (.slice fa tn fc) (.slice ga gn gc) (.slice da kn dc) FL gl NL∧eH wx ob (.slice fa tn fc) (.int .i64 nx) (.int .i64 s.log) (.slice ga gn gc) (.slice da kn dc)∧∀ q,(Value.slice ga gn gc).ownBlock=some q→q≠ob)
             case first=>
              by_cases m0:mn=0
              · have hml:e.fl=[]:=List.eq_nil_of_length_eq_zero (by rw[HQ.out.2.2.2.2.2.1];exact m0)
                have zm:¬ (0:Int)<(mn:Int):=by omega
                have zd:=decide_eq_false zm
                have HML:=aB hml
                clear hml m0
                go_wp2
                go_meet
                case rel=>exact⟨ca,ln,cc,s.fl,(if_neg (fun h9=>h9 HML.out)).symm,HX3.out.1,HX3.out.2.1,HX3.out.2.2,HOY.out.1⟩
              · have hml:e.fl≠[]:=fun h9=>m0 (by rw[← HQ.out.2.2.2.2.2.1,h9];rfl)
                have zm:(0:Int)<(mn:Int):=by omega
                have zd:=decide_eq_true zm
                have HML:=aB hml
                clear hml m0
                go_wp2_with (go_at_call 133;refine(HCL.out.2.1 _ HB5.out).mono ?_;rintro r wg ⟨ga,gc,rfl,hog,hbg⟩;rw[HQ.out.2.2.2.2.2.1]at hog ⊢;have HG4:=aB (aA (HX3.out.1.below hbg) (aA (HX3.out.2.1.below hbg) (aA (HX3.out.2.2.below hbg) (aA hog hbg))));have o3:=HG4.out.2.2.1.z3;have of3:=HG4.out.2.2.1.zf 3;clear hog hbg)
                go_meet
                case rel=>
                 have hne:∀ q,(Value.slice ga mn gc).ownBlock=some q→q≠ob:=fun q hq e9=>by have:=(HG4.out.2.2.2.1.lt q hq).1;have:=HX3.out.2.2.lt;omega
                 have h4:=HG4.out.2.1
                 exact⟨ga,mn,gc,e.fl,(if_pos HML.out).symm,HG4.out.1.tn tn_setS HOP.out.2,⟨tn_setS.row h4.1 (fun q hq=>h4.2.2.2.1 q hq),tn_setS.row (aK HG4.out.2.2.2.1 (by have:=HX3.out.1.sz;omega)) (fun q hq=>hne q hq),tn_setS.row h4.2.2.1 (fun q hq=>h4.2.2.2.2 q hq),h4.2.2.2⟩,HG4.out.2.2.1.set3,hne⟩
             case rest=>
              obtain⟨ga,gn,gc,gl,hgl,g1,g2,g3,g4⟩:=hcut
              rename World=>wh
              have b2:=g1.b2
              have o2:=g3.z2
              have of2:=g3.zf 2
              have HG5:=aB (aA hgl (aA g1 (aA g2 (aA g3 g4))))
              clear hgl g1 g2 g3 g4 b3
              go_upto_if 108 with fail
              go_cut [] (fun wx=>∃ lg:Int,lg=(if 0<e.log then e.log else s.log)∧ApS w wx (.slice sa sn sc) (.int .i64 s.next) (.int .i64 s.log) (.slice la ln lc) (.slice na nn nc) (.slice xa xn xc) (.slice ya yn yc) (.int .i64 e.log) (.slice ma mn mc) (.slice oa on oc)∧OwnP wx (w.heap.size+3) ob (.slice fa tn fc) (.slice ga gn gc) (.slice da kn dc) FL gl NL∧eH wx ob (.slice fa tn fc) (.int .i64 nx) (.int .i64 lg) (.slice ga gn gc) (.slice da kn dc))
              case first=>
               by_cases k1:0<e.log
               · have K1:=aB k1
                 have kd:=decide_eq_true k1
                 go_wp2_with fail
                 go_meet
                 case rel=>exact⟨e.log,(if_pos K1.out).symm,HG5.out.2.1.tn tn_setS HOP.out.2,⟨tn_setS.row HG5.out.2.2.1.1 (fun q hq=>HG5.out.2.2.1.2.2.2.1 q hq),tn_setS.row HG5.out.2.2.1.2.1 (fun q hq=>HG5.out.2.2.2.2 q hq),tn_setS.row HG5.out.2.2.1.2.2.1 (fun q hq=>HG5.out.2.2.1.2.2.2.2 q hq),HG5.out.2.2.1.2.2.2⟩,HG5.out.2.2.2.1.set2⟩
               · have K1:=aB k1
                 have kd:=decide_eq_false k1
                 go_wp2_with fail
                 go_meet
                 case rel=>exact⟨s.log,(if_neg (by have:=K1.out;omega)).symm,HG5.out.2.1,HG5.out.2.2.1,HG5.out.2.2.2.1⟩
              case rest=>
               obtain⟨lg,hlg,g1,g2,g3⟩:=hcut
               rename World=>wi
               have hap:aO s e=(0,⟨FL,nx,lg,gl,NL⟩):=by rw[HAP0.out,hlg,HG5.out.1]
               have HAP:=aB hap
               clear hap hlg b2 o2 of2
               obtain⟨r0,r1,r2,r3,r4,y0,y1,y2,y3,y4⟩:=g1.rs
               obtain⟨o0,o1,o2,o3,o4,_⟩:=g3
               have hnob:¬ ob=w.heap.size+2:=by have:=HOP.out.2;omega
               have HG6:=aB (aA g1 g2)
               clear g1 g2
               go_wp2_with fail
               (try simp only[Exit.inBlock,Exit.then])
               exact bodyPost_ret (cJ rfl rfl HG6.out.1.load) rfl ⟨HG6.out.1.bel5,_,by rw[HAP.out];rfl,by rw[HAP.out];exact HG6.out.2.five⟩
         · have hmt:Calls Tryz.prog 136 #[.slice fa tn fc] wc fun r w'=>r= .returned (.bool true)∧Below wc.heap.size wc w':=by
            have h1:=mmeet_any HFA.out.rda (by have:=HBL.out.1;omega)
            exact h1.mono (by rintro r w' ⟨h9|h9,hb⟩;exact absurd h9.1 hAp;exact⟨h9.2,hb⟩)
           have HMT:=aB hmt
           have hap:aO s e=(32,s00):=by
            unfold aO
            rw[if_neg (by rw[hE];simp),HTT.out.1,if_neg (by simp),if_neg HNB.out]
            exact if_pos hAp
           have HAP:=aB hap
           clear hmt hap hAp
           go_wp2_with (go_at_call 136;refine HMT.out.mono ?_;rintro r wd ⟨rfl,hbd⟩;have HX2:=aB (HX.out.1.below hbd);obtain⟨r0,r1,r2,r3,r4,y0,y1,y2,y3,y4⟩:=HX2.out.rs;clear hbd)
           (try simp only[Exit.inBlock,Exit.then])
           exact bodyPost_ret (cJ rfl rfl HX2.out.load) rfl (lX HX2.out HAP.out rfl)
   · have hap:aO s e=(er,s00):=by
      unfold aO
      rw[if_neg (by rw[hE];simp),HTT.out.1]
      exact if_pos her
     have HAP:=aB hap
     have zer:(er != 0)=true:=bne_iff_ne.2 her
     clear hap
     obtain⟨r0,r1,r2,r3,r4,y0,y1,y2,y3,y4⟩:=HX.out.1.rs
     go_wp2_with fail
     (try simp only[Exit.inBlock,Exit.then])
     exact bodyPost_ret (cJ rfl rfl HX.out.1.load) rfl (lX HX.out.1 HAP.out rfl)
end
end Go.Proofs.YtpfibkgmfapnjaaGreatDoor
