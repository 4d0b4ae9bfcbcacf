/- Manifest: edits, and a pair, that came in. -/
import Derived.Test.YtpfibkgmfapnjaaGreatDoorS3
import Derived.ProofKit
import Derived.OpenShut
import Derived.Deep.Slices
import Derived.ChangeSame
import Derived.SizedLaws
import Derived.Test.YtpfibkgmfapnjaaGreatDoorS6
import Derived.BigQuiet
import Derived.Test.YtpfibkgmfapnjaaGreatDoorShS
import Derived.Test.YtpfibkgmfapnjaaGreatDoorS10
import Derived.Test.YtpfibkgmfapnjaaGreatDoorS13
import Derived.Lib.Builder
import Derived.Lib.AppendStr
import Derived.Laws.Externs
import Derived.Test.YtpfibkgmfapnjaaGreatDoorS15
import GoSem.Claim
set_option linter.unusedSimpArgs false
set_option linter.unusedVariables false
namespace Go.Proofs.YtpfibkgmfapnjaaGreatDoor
section
open Go.RowKit Go.ChangeShapes Go.WideShapes Go.ChangeAt Go.Deep
theorem mn_list_of {α:Type} (p:Nat→α→Prop):∀ n,(∀ i,i<n→∃ x,p i x)→∃ l:List α,l.length=n∧∀ i (hi:i<l.length),p i l[i]
 |0,_=>⟨[],rfl,fun i hi=>by simp at hi⟩
 |n+1,h=>by
  obtain⟨l,hl,hp⟩:=mn_list_of p n (fun i hi=>h i (by omega))
  obtain⟨x,hx⟩:=h n (by omega)
  refine⟨l++[x],by simp[hl],fun i hi=>?_⟩
  rcases Nat.lt_or_ge i l.length with h1|h1
  · rw[List.getElem_append_left h1];exact hp i h1
  · have h2:i=n:=by simp at hi;omega
    subst h2
    rw[List.getElem_append_right (by omega)]
    simp[hl,hx]
theorem bL {cs:List Value} {k:Nat} {v:Value} (h:(cs.drop k).take 1=[v]):cs[k]?=some v:=by
 have:=congrArg (fun l=>l[0]?) h
 simpa using this
theorem mn_add (g o j:Nat):(⟨g,o,none⟩:Addr).add j=⟨g,o+j,none⟩:=by unfold Addr.add;split<;>simp_all
def LW {H:Type} (P:Program) (t:TypeId) (d:DataW H):Prop:=∀ n∈d.weights P t,n≤reachBytes
theorem sized_of {H:Type} {P:Program} {ts:List TypeId} {ds:List (DataW H)} (h:(DataW.weightsEach P ts ds).all (· ≤reachBytes)=true) {j:Nat} {t:TypeId} {d:DataW H} (ht:ts[j]?=some t) (hd:ds[j]?=some d):LW P t d:=
 fun n hn=>of_decide_eq_true (List.all_eq_true.1 h n (DataW.weights_mem_each ht hd n hn))
theorem weights_all {H:Type} {P:Program} {e:TypeId} {l:List (DataW H)} {d:DataW H} (hd:d∈l) {n:Nat} (hn:n∈d.weights P e):n∈DataW.weightsAll P e l:=by
 induction l with
 |nil=>simp at hd
 |cons x l ih=>
  unfold DataW.weightsAll
  rcases List.mem_cons.1 hd with rfl|hd
  · exact List.mem_append_left _ hn
  · exact List.mem_append_right _ (ih hd)
theorem LW.slice {H:Type} {P:Program} {T E:TypeId} {a b:List (DataW H)} (h:LW P T (.slice a b)) (hT:P.underlying T=some (.slice E)):a.length*P.bytesOf E≤reachBytes∧∀ d∈a,LW P E d:=by
 unfold LW DataW.weights at h
 rw[hT]at h
 refine⟨?_,fun d hd n hn=>h n (List.mem_cons_of_mem _ (List.mem_append_left _ (weights_all hd hn)))⟩
 have:=h _ (List.mem_cons_self ..)
 rw[Nat.add_mul]at this
 omega
theorem LW.field {H:Type} {P:Program} {T:TypeId} {fs:Array Field} {parts:List (DataW H)} (h:LW P T (.agg parts)) (hT:P.underlying T=some (.struct fs)) {j:Nat} {t:TypeId} {d:DataW H} (ht:(fs.toList.map (·.type))[j]?=some t) (hd:parts[j]?=some d):LW P t d:=by
 unfold LW DataW.weights at h
 rw[hT]at h
 exact fun n hn=>h n (DataW.weights_mem_each ht hd n hn)
theorem LW.str {H:Type} {P:Program} {T:TypeId} {l:List UInt8} (h:LW (H:=H) P T (.lit (.string l))):l.length≤140737488351232:=by
 have:=h l.length (by unfold DataW.weights;simp)
 exact this
def Fi.szs (x:Fi):Prop:=x.f.size≤140737488351232∧x.l.size≤140737488351232
def szN (p:KV):Prop:=p.1.size≤140737488351232∧p.2.size≤140737488351232
def PE.wf (e:PE):Prop:=(e.add.length≤140737488351232∧∀ f∈e.add,f.szs)∧e.rem.length≤140737488351232∧e.fl.length≤140737488351232∧e.ns.length≤140737488351232∧∀ p∈e.ns,szN p
structure EdR where
 av:Value
 rv:Value
 lg:Int
 lv:Value
 nv:Value
def EdR.cells (o:EdR):List Value:=[o.av,o.rv,.int .i64 o.lg,o.lv,o.nv]
def EdR.val (o:EdR):Value:= .agg #[o.av,o.rv,.int .i64 o.lg,o.lv,o.nv]
def EdOk (w:World) (o:EdR):Prop:=∃ e,EdV w o.val e∧e.wf
def EdsIn (w:World) (a:Option Addr) (len cap:Nat) (l:List EdR):Prop:=l.length=len∧mA EdR.cells 5 w (.slice a len cap) l∧∀ o∈l,EdOk w o
section
variable {H:Type} {enc:TypeId×Value→H} {w:World} {base:Nat} {spare:Nat→Bool} {held:Bool}
theorem lJ {α:Type} {cell:α→List Value} {k:Nat} {T E:TypeId} {n:Nat} {cs:List Value} {x:DataW H×List MemPlace} (hT:Tryz.prog.underlying T=some (.slice E)) (hC:Tryz.prog.cellsOf E=k) (hB:1≤Tryz.prog.bytesOf E) (hw:LW Tryz.prog T x.1) (hk:0<k) (hlen:∀ o,(cell o).length=k) {Q:α→Prop}
 (op:∀ m cs y,cs.length=k→LW Tryz.prog E y.1→DataW.trod enc Tryz.prog w base spare held m E cs=some y→∃ o,cs=cell o∧Q o) (h:DataW.trod enc Tryz.prog w base spare held n T cs=some x):
 ∃ l v,cs=[v]∧mA cell k w v l∧l.length≤140737488351232∧∀ o∈l,Q o:=by
 rcases open_slice hT h with⟨hcs,_⟩|⟨ad,len,cap,m,n,D,Pl,hcs,_,hl,hm,hmm,hx,hi⟩
 · exact⟨[],_,hcs,mA.nil w,Nat.zero_le _,fun o ho=>by simp at ho⟩
 · have hlm:len≤m:=by rw[hmm];split<;>omega
   rw[hC]at hi
   rw[hx]at hw
   obtain⟨hw1,hw2⟩:=hw.slice hT
   rw[List.length_map,List.length_range]at hw1
   have hlr:len≤140737488351232:=Nat.le_trans (Nat.le_mul_of_pos_right len hB) hw1
   have each:∀ i,i<len→∃ o:α,Q o∧∀ j u,(cell o)[j]?=some u→w.cell? ((ad.add (i*k)).add j)=some u:=by
    intro i hil
    obtain⟨cs',hc,ht⟩:=hi i (by omega)
    obtain⟨_,hl',hat⟩:=World.cells?_some hc
    obtain⟨o,rfl,hq⟩:=op _ _ _ (by omega) (hw2 (D i) (List.mem_map.2 ⟨i,List.mem_range.2 hil,rfl⟩)) ht
    refine⟨o,hq,fun j u hu=>?_⟩
    have hj:j<k:=by rw[← hlen o];exact(List.getElem?_eq_some_iff.1 hu).1
    exact(hat j hj).trans hu
   obtain⟨l,hll,hp⟩:=mn_list_of _ len each
   refine⟨l,_,hcs,⟨some ad,cap,by rw[hll],by omega,by unfold maxLen at hm;omega,(fun e=>by cases e),?_⟩,by omega,fun o ho=>?_⟩
   · by_cases h0:len=0
     · exact .inl (List.eq_nil_of_length_eq_zero (hll.trans h0))
     · right
       have h1:0<l.length:=by omega
       obtain⟨b,off,spot⟩:=ad
       have hu:∃ u,(cell l[0])[0]?=some u:=⟨_,List.getElem?_eq_getElem (by rw[hlen];exact hk)⟩
       obtain⟨u,hu⟩:=hu
       have hc:=(hp 0 h1).2 0 u hu
       have hspot:spot=none:=by simpa[Addr.add]using World.cell?_spot hc
       subst hspot
       rw[mn_add,mn_add]at hc
       refine⟨b,off,rfl,World.block_lt_of_cell? _ _ hc,fun i hil j u hu=>?_⟩
       have:=(hp i hil).2 j u hu
       rwa [mn_add,mn_add]at this
   · obtain⟨i,hil,rfl⟩:=List.mem_iff_getElem.1 ho
     exact(hp i hil).1
theorem open_z {n:Nat} {cs:List Value} {x:DataW H×List MemPlace} {T:TypeId} (hT:Tryz.prog.underlying T=some (.slice 3)) (hw:LW Tryz.prog T x.1) (h:DataW.trod enc Tryz.prog w base spare held n T cs=some x):∃ l v,cs=[v]∧RdZ w v l∧l.length≤140737488351232:=by
 obtain⟨l,v,h1,h2,h3,_⟩:=lJ (k:=1) (cell:=cI1) (Q:=fun _=>True) hT (by kernel_rfl) (of_decide_eq_true (by kernel_rfl)) hw (by decide) (fun o=>rfl) (fun m cs y _ _ ht=>by
  obtain⟨z,e,_⟩:=DataW.trod_int Tryz.underlying3 ht
  exact⟨z,e,trivial⟩) h
 exact⟨l,v,h1,h2,h3⟩
set_option maxRecDepth 100000 in
theorem open_fi {n:Nat} {cs:List Value} {x:DataW H×List MemPlace} (hw:LW Tryz.prog 79 x.1) (h:DataW.trod enc Tryz.prog w base spare held n 79 cs=some x):∃ o:Fi,cs=o.cells∧o.szs:=by
 obtain⟨xs,n',_,hx,hl,hlen,hf⟩:=DataW.trod_struct Tryz.underlying79 h
 rw[hx]at hw
 have hl6:xs.length=6:=hlen
 obtain⟨k,e0,_,w0⟩:=DataW.trod_int Tryz.underlying3 ((hf 0 _ rfl).trans (List.getElem?_eq_getElem (by omega)))
 obtain⟨a,e1,_,w1⟩:=DataW.trod_int Tryz.underlying3 ((hf 1 _ rfl).trans (List.getElem?_eq_getElem (by omega)))
 obtain⟨b,e2,_,w2⟩:=DataW.trod_int Tryz.underlying3 ((hf 2 _ rfl).trans (List.getElem?_eq_getElem (by omega)))
 obtain⟨c,e3,_,w3⟩:=DataW.trod_int Tryz.underlying3 ((hf 3 _ rfl).trans (List.getElem?_eq_getElem (by omega)))
 have hpart:∀ j (hj:j<xs.length),(xs.map (·.1))[j]?=some xs[j].1:=fun j hj=>by rw[List.getElem?_map,List.getElem?_eq_getElem hj];rfl
 obtain⟨d,e4,x4,_⟩:=DataW.trod_string Tryz.underlying9 ((hf 4 _ rfl).trans (List.getElem?_eq_getElem (by omega)))
 obtain⟨e,e5,x5,_⟩:=DataW.trod_string Tryz.underlying9 ((hf 5 _ rfl).trans (List.getElem?_eq_getElem (by omega)))
 have w4:d.size≤140737488351232:=by
  have:=hw.field Tryz.underlying79 (j:=4) (t:=9) rfl (hpart 4 (by omega))
  rw[x4]at this
  exact this.str
 have w5:e.size≤140737488351232:=by
  have:=hw.field Tryz.underlying79 (j:=5) (t:=9) rfl (hpart 5 (by omega))
  rw[x5]at this
  exact this.str
 have hC:Tryz.prog.cellsOf 79=6:=by kernel_rfl
 rw[hC]at hl
 have e0:=bL e0
 have e1:=bL e1
 have e2:=bL e2
 have e3:=bL e3
 have e4:=bL e4
 have e5:=bL e5
 match cs,hl,e0,e1,e2,e3,e4,e5 with
 |[v0,v1,v2,v3,v4,v5],_,e0,e1,e2,e3,e4,e5=>
  simp at e0 e1 e2 e3 e4 e5
  subst e0 e1 e2 e3 e4 e5
  exact⟨⟨k,a,b,c,d,e⟩,rfl,w4,w5⟩
set_option maxRecDepth 100000 in
theorem open_nt {n:Nat} {cs:List Value} {x:DataW H×List MemPlace} (hw:LW Tryz.prog 74 x.1) (h:DataW.trod enc Tryz.prog w base spare held n 74 cs=some x):∃ o:KV,cs=cNt o∧szN o:=by
 obtain⟨xs,n',_,hx,hl,hlen,hf⟩:=DataW.trod_struct Tryz.underlying74 h
 rw[hx]at hw
 have hl2:xs.length=2:=hlen
 have hpart:∀ j (hj:j<xs.length),(xs.map (·.1))[j]?=some xs[j].1:=fun j hj=>by rw[List.getElem?_map,List.getElem?_eq_getElem hj];rfl
 obtain⟨d,e4,x4,_⟩:=DataW.trod_string Tryz.underlying9 ((hf 0 _ rfl).trans (List.getElem?_eq_getElem (by omega)))
 obtain⟨e,e5,x5,_⟩:=DataW.trod_string Tryz.underlying9 ((hf 1 _ rfl).trans (List.getElem?_eq_getElem (by omega)))
 have w4:d.size≤140737488351232:=by
  have:=hw.field Tryz.underlying74 (j:=0) (t:=9) rfl (hpart 0 (by omega))
  rw[x4]at this
  exact this.str
 have w5:e.size≤140737488351232:=by
  have:=hw.field Tryz.underlying74 (j:=1) (t:=9) rfl (hpart 1 (by omega))
  rw[x5]at this
  exact this.str
 have hC:Tryz.prog.cellsOf 74=2:=by kernel_rfl
 rw[hC]at hl
 have e4:=bL e4
 have e5:=bL e5
 match cs,hl,e4,e5 with
 |[v0,v1],_,e4,e5=>
  simp at e4 e5
  subst e4 e5
  exact⟨(d,e),rfl,w4,w5⟩
set_option maxRecDepth 100000 in
theorem open_edit {n:Nat} {cs:List Value} {x:DataW H×List MemPlace} (hw:LW Tryz.prog 56 x.1) (h:DataW.trod enc Tryz.prog w base spare held n 56 cs=some x):∃ o:EdR,cs=o.cells∧EdOk w o:=by
 obtain⟨xs,n',_,hx,hl,hlen,hf⟩:=DataW.trod_struct Tryz.underlying56 h
 rw[hx]at hw
 have hpart:∀ j (hj:j<xs.length),(xs.map (·.1))[j]?=some xs[j].1:=fun j hj=>by rw[List.getElem?_map,List.getElem?_eq_getElem hj];rfl
 have hl5:xs.length=5:=hlen
 obtain⟨la,va,e0,r0,m0,q0⟩:=lJ (k:=6) (cell:=Fi.cells) (Q:=Fi.szs) Tryz.underlying30 (by kernel_rfl) (of_decide_eq_true (by kernel_rfl)) (hw.field Tryz.underlying56 (j:=0) rfl (hpart 0 (by omega))) (by decide) (fun o=>rfl) (fun m cs y _ hy ht=>open_fi hy ht) ((hf 0 _ rfl).trans (List.getElem?_eq_getElem (by omega)))
 obtain⟨lr,vr,e1,r1,m1⟩:=open_z Tryz.underlying31 (hw.field Tryz.underlying56 (j:=1) rfl (hpart 1 (by omega))) ((hf 1 _ rfl).trans (List.getElem?_eq_getElem (by omega)))
 obtain⟨lg,e2,_,w2⟩:=DataW.trod_int Tryz.underlying3 ((hf 2 _ rfl).trans (List.getElem?_eq_getElem (by omega)))
 obtain⟨lf,vf,e3,r3,m3⟩:=open_z Tryz.underlying32 (hw.field Tryz.underlying56 (j:=3) rfl (hpart 3 (by omega))) ((hf 3 _ rfl).trans (List.getElem?_eq_getElem (by omega)))
 obtain⟨ln,vn,e4,r4,m4,q4⟩:=lJ (k:=2) (cell:=cNt) (Q:=szN) Tryz.underlying33 (by kernel_rfl) (of_decide_eq_true (by kernel_rfl)) (hw.field Tryz.underlying56 (j:=4) rfl (hpart 4 (by omega))) (by decide) (fun o=>rfl) (fun m cs y _ hy ht=>open_nt hy ht) ((hf 4 _ rfl).trans (List.getElem?_eq_getElem (by omega)))
 have hC:Tryz.prog.cellsOf 56=5:=by kernel_rfl
 rw[hC]at hl
 have e0:=bL e0
 have e1:=bL e1
 have e2:=bL e2
 have e3:=bL e3
 have e4:=bL e4
 match cs,hl,e0,e1,e2,e3,e4 with
 |[v0,v1,v2,v3,v4],_,e0,e1,e2,e3,e4=>
  simp at e0 e1 e2 e3 e4
  subst e0 e1 e2 e3 e4
  exact⟨⟨v0,v1,lg,v3,v4⟩,rfl,⟨la,lr,lg,lf,ln⟩,⟨v0,v1,v3,v4,rfl,r0,r1,r3,r4⟩,⟨m0,q0⟩,m1,m3,m4,q4⟩
theorem open_edits {n:Nat} {a:Option Addr} {len cap:Nat} {x:DataW H×List MemPlace} (hw:LW Tryz.prog 71 x.1) (h:DataW.trod enc Tryz.prog w base spare held n 71 [.slice a len cap]=some x):∃ l,EdsIn w a len cap l∧len≤140737488351232:=by
 obtain⟨l,v,h1,h2,h3,h4⟩:=lJ (k:=5) (cell:=EdR.cells) (Q:=EdOk w) Tryz.underlying71 (by kernel_rfl) (of_decide_eq_true (by kernel_rfl)) hw (by decide) (fun o=>rfl) (fun m cs y _ hy ht=>open_edit hy ht) h
 injection h1 with h1
 subst h1
 obtain⟨a',c',e,_⟩:=h2.form
 injection e with e1 e2 e3
 exact⟨l,⟨by omega,h2,h4⟩,by omega⟩
end
end
section
open Go.RowKit
def lightN (e:PE):Nat:=e.add.length*20+e.rem.length+e.ns.length*20+e.fl.length
def LiAns (e:PE) (w:World) (r:Ending) (w':World):Prop:=∃ b,r= .returned (.bool b)∧Below w.heap.size w w'∧(b=true→lightN e<40000)
structure Lb (w w':World) (u0 u1 u2 u3 u4:Value):Prop where
 a0:w'.cell? ⟨w.heap.size,0,none⟩=some u0
 a1:w'.cell? ⟨w.heap.size,1,none⟩=some u1
 a2:w'.cell? ⟨w.heap.size,2,none⟩=some u2
 a3:w'.cell? ⟨w.heap.size,3,none⟩=some u3
 a4:w'.cell? ⟨w.heap.size,4,none⟩=some u4
 bel:Below w.heap.size w w'
 sz:w.heap.size+1≤w'.heap.size
theorem Lb.below {w w' w'':World} {u0 u1 u2 u3 u4:Value} (h:Lb w w' u0 u1 u2 u3 u4) (hb:Below w'.heap.size w' w''):Lb w w'' u0 u1 u2 u3 u4:=
 have l0:w.heap.size<w'.heap.size:=by have:=h.sz;omega
 ⟨(hb.cell (p:=⟨w.heap.size,0,none⟩) l0).trans h.a0,(hb.cell (p:=⟨w.heap.size,1,none⟩) l0).trans h.a1,(hb.cell (p:=⟨w.heap.size,2,none⟩) l0).trans h.a2,(hb.cell (p:=⟨w.heap.size,3,none⟩) l0).trans h.a3,(hb.cell (p:=⟨w.heap.size,4,none⟩) l0).trans h.a4,
  h.bel.trans (hb.mono h.bel.size),Nat.le_trans h.sz hb.size⟩
theorem Lb.drewN {w w':World} {u0 u1 u2 u3 u4:Value} (h:Lb w w' u0 u1 u2 u3 u4) (n:Nat):Lb w (w'.drewN n) u0 u1 u2 u3 u4:=h.below ⟨rfl,rfl,rfl,Nat.le_refl _,fun _ _=>rfl⟩
end
section
open Go.RowKit
abbrev tB:TypeId:=174
abbrev tU:TypeId:=5
abbrev hU (B b:Nat) (l:List Value) (w:World):Prop:=Lib.IsBuilder tB tU B b l w
theorem info_bld:∃ j,Tryz.prog.info? tB=some j∧j.size=2:=by
 have h:(Tryz.prog.info? tB).map (·.size)=some 2:=by kernel_rfl
 exact Option.map_eq_some_iff.1 h
theorem lies_bld:liesAt Tryz.prog Tryz.prog.depth tB (2/Tryz.prog.cellsOf tB) 0 tB 1=true:=by kernel_rfl
set_option maxHeartbeats 1000000 in
set_option maxRecDepth 100000 in
theorem check_used (b:Nat) (w:World) (h0:w.cell? ⟨b,0,none⟩=some (.pointer (some ⟨b,0,none⟩))):
 Calls Tryz.prog 242 #[.pointer (some ⟨b,0,none⟩)] w fun e w'=>e= .returned (.tuple #[])∧w'=w:=by
 obtain⟨j,hj,_⟩:=info_bld
 have hq:=fun w=>Lib.run_neq_ptr_same (P:=Tryz.prog) (w:=w) ⟨b,0,none⟩ Tryz.underlying172 hj
 go_enter Tryz.func242,Tryz.ntmps242
 go_wp2
 go_end0
 exact⟨rfl,rfl⟩
set_option maxHeartbeats 1000000 in
set_option maxRecDepth 100000 in
theorem check_fresh (b:Nat) (w:World) (h0:w.cell? ⟨b,0,none⟩=some (.pointer none)) (hsh:w.shape? b=some (tB,2)) (hfz:w.frozen? ⟨b,0,none⟩=false):
 Calls Tryz.prog 242 #[.pointer (some ⟨b,0,none⟩)] w fun e w'=>e= .returned (.tuple #[])∧w'=w.setCell ⟨b,0,none⟩ (.pointer (some ⟨b,0,none⟩)):=by
 obtain⟨j,hj,hjs⟩:=info_bld
 have k1:=Lib.run_to_unsafe (P:=Tryz.prog) (w:=w) ⟨b,0,none⟩ Tryz.underlying172 Tryz.underlying322 hj (by rw[hjs];decide) hsh (Nat.zero_lt_succ 1)
 have k2:=Lib.run_from_unsafe (P:=Tryz.prog) (w:=w) ⟨b,0,none⟩ Tryz.underlying322 Tryz.underlying172 hj hsh lies_bld
 have k3:∀ x,(callFunc 297 #[x]).run Tryz.prog w= .ok (.value x) w:=fun x=>by
  rw[run_callFunc_extern Tryz.func297 (by kernel_rfl) (by kernel_rfl) (by kernel_rfl) (e:=Extern.AbiNoEscape.same) (by kernel_rfl),Lib.run_noEscape]
  rfl
 go_enter Tryz.func242,Tryz.ntmps242
 go_wp2
 go_end0
 exact⟨rfl,rfl⟩
theorem check_any {B b:Nat} {bs:List Value} {w:World} (h:hU B b bs w):Calls Tryz.prog 242 #[.pointer (some ⟨b,0,none⟩)] w fun e w'=>
 e= .returned (.tuple #[])∧Lib.BuilderAt tB tU B b (.pointer (some ⟨b,0,none⟩)) bs w'∧Below B w w':=by
 rcases h with h|h
 · refine(check_fresh b w h.cell0 h.shape h.frozen0).mono ?_
   rintro e w' ⟨h1,h2⟩
   rw[h2]
   exact⟨h1,h.used _,(Below.refl B w).setCell h.1 _⟩
 · refine(check_used b w h.cell0).mono ?_
   rintro e w' ⟨h1,h2⟩
   rw[h2]
   exact⟨h1,h,Below.refl B _⟩
theorem bld_below {B b:Nat} {bs:List Value} {w w':World} (h:hU B b bs w) (hb:Below w.heap.size w w'):hU B b bs w':=by
 have key:∀ p,Lib.BuilderAt tB tU B b p bs w→Lib.BuilderAt tB tU B b p bs w':=fun p h=>by
  have hlt:=h.lt
  obtain⟨h1,v,h2,h3,h4⟩:=h
  exact⟨h1,v,(hb.block b hlt).trans h2,aD h3 hb,h4⟩
 exact h.imp (key _) (key _)
theorem t_ne:tB≠tU:=by decide
set_option maxHeartbeats 2000000 in
set_option maxRecDepth 100000 in
theorem bld_text {B b:Nat} {bs:List Value} {w:World} (h:hU B b bs w) (s:ByteArray) (hlen:bs.length+s.size≤140737488355328) (hB:B≤w.heap.size):
 Calls Tryz.prog 152 #[.pointer (some ⟨b,0,none⟩),.string s] w fun e w'=>e= .returned (.tuple #[.int .i64 s.size,.nilIface])∧hU B b (bs++Lib.strCells s) w'∧Below B w w':=by
 obtain⟨i0,hi,hz0,hz1,hz2⟩:=info_parts info_u8
 have hc:=check_any h
 clear h
 go_enter Tryz.func152,Tryz.ntmps152
 go_wp2_with fail
 refine hc.mono ?_
 rintro e w1 ⟨rfl,⟨hBb,v,hbk,hown,hne⟩,hb1⟩
 have c0:w1.cell? ⟨b,0,none⟩=some (.pointer (some ⟨b,0,none⟩)):=by rw[Lib.cell_of_heap hbk];rfl
 have c1:w1.cell? ⟨b,1,none⟩=some v:=by rw[Lib.cell_of_heap hbk];rfl
 have hlt:b<w1.heap.size:=World.block_lt_of_cell? _ _ c0
 have hz:=hb1.size
 have H:=aB (aA hown (aA hne (aA hbk (aA hb1 hBb))))
 clear hown hne hbk hb1 hBb
 go_wp2_with (first
  |(at_builtin;go_loud (refine Lib.wpList_append_own_string _ rfl _ _ 114 9 rfl B tU i0 Tryz.underlying114 Tryz.underlying9 hi hz0 hz1 hz2 _ _ _ rfl H.out.1 s rfl (by unfold maxLen;omega) (by omega) (by omega) ?_);intro v' w2 hown2 hgrow _
    have hb2:w2.heap[b]?=some (.cells #[.pointer (some ⟨b,0,none⟩),v] tB (0,0)):=(hgrow.block b hlt (fun e=>H.out.2.1 e.symm)).trans H.out.2.2.1
    have d0:w2.cell? ⟨b,0,none⟩=some (.pointer (some ⟨b,0,none⟩)):=by rw[Lib.cell_of_heap hb2];rfl
    have d1:w2.cell? ⟨b,1,none⟩=some v:=by rw[Lib.cell_of_heap hb2];rfl
    have f1:w2.frozen? ⟨b,1,none⟩=false:=Lib.frozen_of_heap hb2 1
    obtain⟨ao,n',cap,rfl⟩:∃ ao n' cap,v'= .slice ao n' cap:=by
     obtain⟨a,c,e,_⟩:=aI hown2
     exact⟨a,_,c,e⟩
    have H2:=aB (aA hown2 (aA hgrow hb2));clear hown2 hgrow hb2))
 go_ret2
 exact⟨rfl,.inr (Lib.BuilderAt.put (T:=tB) (e:=tU) H.out.2.2.2.2 H2.out.2.2 (bs':=bs++Lib.strCells s) (by simpa[Lib.strCells_length]using H2.out.1) t_ne),(H.out.2.2.2.1.grown H2.out.2.1 (by omega) (fun k hk=>(H.out.1.lt k hk).1)).setCell (p:=⟨b,1,none⟩) H.out.2.2.2.2 _⟩
set_option maxHeartbeats 2000000 in
set_option maxRecDepth 100000 in
theorem bld_byte {B b:Nat} {bs:List Value} {w:World} (h:hU B b bs w) (c:Int) (hlen:bs.length+1≤140737488355328) (hB:B≤w.heap.size):
 Calls Tryz.prog 243 #[.pointer (some ⟨b,0,none⟩),.int .u8 c] w fun e w'=>e= .returned .nilIface∧hU B b (bs++[.int .u8 c]) w'∧Below B w w':=by
 obtain⟨i0,hi,hz0,hz1,hz2⟩:=info_parts info_u8
 have hc:=check_any h
 clear h
 go_enter Tryz.func243,Tryz.ntmps243
 go_wp2_with fail
 refine hc.mono ?_
 rintro e w1 ⟨rfl,⟨hBb,v,hbk,hown,hne⟩,hb1⟩
 have c0:w1.cell? ⟨b,0,none⟩=some (.pointer (some ⟨b,0,none⟩)):=by rw[Lib.cell_of_heap hbk];rfl
 have c1:w1.cell? ⟨b,1,none⟩=some v:=by rw[Lib.cell_of_heap hbk];rfl
 have hlt:b<w1.heap.size:=World.block_lt_of_cell? _ _ c0
 have hz:=hb1.size
 have H:=aB (aA hown (aA hne (aA hbk (aA hb1 hBb))))
 clear hown hne hbk hb1 hBb
 go_wp2_with (first
  |(at_builtin;go_loud (refine wpList_append_own _ rfl _ _ 114 rfl B tU i0 (.int .u8 0) 1 1 Tryz.underlying114 hi hz0 hz1 hz2 rfl (by decide) _ _ _ rfl (H.out.1.alloc _) ⟨w1.heap.size,0,none⟩ 1 1 [.int .u8 c] rfl rfl (by
    intro j u hj
    match j,hj with
    |0,hj=>simp at hj;subst hj;simp[Addr.add]) (by intro u hu;simp at hu;subst hu;rfl) (by unfold maxLen;omega) (by omega) (by simp;omega) ?_);intro v' w2 hown2 hgrow _
    have hb2:w2.heap[b]?=some (.cells #[.pointer (some ⟨b,0,none⟩),v] tB (0,0)):=((hgrow.block b (by simp;omega) (fun e=>H.out.2.1 e.symm)).trans (Lib.alloc_old w1 _ b hlt)).trans H.out.2.2.1
    have d0:w2.cell? ⟨b,0,none⟩=some (.pointer (some ⟨b,0,none⟩)):=by rw[Lib.cell_of_heap hb2];rfl
    have d1:w2.cell? ⟨b,1,none⟩=some v:=by rw[Lib.cell_of_heap hb2];rfl
    have f1:w2.frozen? ⟨b,1,none⟩=false:=Lib.frozen_of_heap hb2 1
    obtain⟨ao,n',cap,rfl⟩:∃ ao n' cap,v'= .slice ao n' cap:=by
     obtain⟨a,c,e,_⟩:=aI hown2
     exact⟨a,_,c,e⟩
    have H2:=aB (aA hown2 (aA hgrow hb2));clear hown2 hgrow hb2))
 go_ret
 exact⟨rfl,.inr (Lib.BuilderAt.put (T:=tB) (e:=tU) H.out.2.2.2.2 H2.out.2.2 (bs':=bs++[.int .u8 c]) (by simpa using H2.out.1) t_ne),((H.out.2.2.2.1.alloc (by omega) _).grown H2.out.2.1 (by simp;omega) (fun k hk=>(H.out.1.lt k hk).1)).setCell (p:=⟨b,1,none⟩) H.out.2.2.2.2 _⟩
theorem bld_string {B b:Nat} {l:List UInt8} {w:World} (h:hU B b (Lib.byteCells l) w) (hB:B≤w.heap.size):
 Calls Tryz.prog 155 #[.pointer (some ⟨b,0,none⟩)] w fun e w'=>e= .returned (.string ⟨l.toArray⟩)∧Below B w w':=Tryz.Builder_String_any B b l w h hB
end
section
open Go.RowKit
variable {w w' w0 w1 w2 w3 w4:World} {mb lb B:Nat} {ob:Option Nat} {last now:Int}
def gU (t:Int):List UInt8:=Rw.beF 6 t.toNat
def enc7 (t:Int):List UInt8:=Rw.beF 7 t.toNat
def fG (vs:List Int):List UInt8:=UInt8.ofNat vs.length::vs.flatMap gU
def encL (c:Int×List Int×Int):List UInt8:=enc7 c.1++enc7 c.2.2++fG c.2.1
def putS (last:Int) (l:List (Int×List Int×Int)):List UInt8:=enc7 last++l.flatMap encL
theorem str_cells (l:List UInt8):Lib.strCells ⟨l.toArray⟩=Lib.byteCells l:=by unfold Lib.strCells Lib.byteCells;simp
theorem byte_app (a b:List UInt8):Lib.byteCells (a++b)=Lib.byteCells a++Lib.byteCells b:=by unfold Lib.byteCells;simp
theorem lR (t:Int):(gU t).length=6:=Rw.beF_len _ _
theorem jV (vs:List Int):(vs.flatMap gU).length=6*vs.length:=by
 induction vs with
 |nil=>rfl
 |cons t vs ih=>rw[List.flatMap_cons,List.length_append,lR,ih,List.length_cons];omega
theorem put6_any (n:Int) (h0:0≤n) (h1:n<281474976710656) (w:World):Calls Tryz.prog 54 #[.int .i64 n,.int .i64 6] w fun e w'=>e= .returned (.tuple #[.string ⟨(gU n).toArray⟩,.int .i64 0])∧Below w.heap.size w w':=by
 obtain⟨k,rfl⟩:=Int.eq_ofNat_of_zero_le h0
 exact put_ok k 6 w (by omega) (by omega) (by omega)
set_option maxRecDepth 100000 in
set_option maxHeartbeats 1000000 in
theorem putvec_any {x:Value} {vs:List Int} (h:RdI w x vs) (hv:bK vs=true):Calls Tryz.prog 154 #[x] w fun e w'=>e= .returned (.tuple #[.string ⟨(fG vs).toArray⟩,.int .i64 0])∧Below w.heap.size w w':=by
 have hV:=valid_any h
 rw[hv]at hV
 obtain⟨a,c,rfl,hc⟩:=h
 obtain⟨n,hn⟩:∃ n,vs.length=n:=⟨_,rfl⟩
 have hn8:1≤n∧n≤8:=by
  simp only[bK,Bool.and_eq_true,decide_eq_true_eq]at hv
  omega
 have hok:∀ t∈vs,0≤t∧t<281474976710656:=fun t ht=>by
  simp only[bK,Bool.and_eq_true]at hv
  have:=List.all_eq_true.1 hv.2 t ht
  simpa[okT]using this
 rw[hn]at hV ⊢
 obtain⟨W1,hW1⟩:∃ W1,w.alloc (.cells #[.pointer none,.slice none 0 0] 174)=W1:=⟨_,rfl⟩
 have hB1:hU w.heap.size w.heap.size [] W1:=by rw[← hW1];exact Lib.fresh_isBuilder _ _ w
 have hb1:Below w.heap.size w W1:=by rw[← hW1];exact(Below.refl _ _).alloc (Nat.le_refl _) _
 have hc8:(n:Int)%256=(n:Int):=by omega
 have H:=aB (aA hc (aA hn (aA hok (aA hB1 (aA hb1 hn8)))))
 have hn1:n≤8:=hn8.2
 clear hc hn hok hv hB1 hb1 hn8
 go_enter Tryz.func154,Tryz.ntmps154
 go_wp2_with (first
  |(go_at_call 243;go_loud (refine(bld_byte H.out.2.2.2.1 _ (by simp) H.out.2.2.2.2.1.size).mono ?_);rintro e w2 ⟨rfl,hB2,hb2⟩;have H2:=aB (aA hB2 (H.out.2.2.2.2.1.trans hb2));clear hB2 hb2)
  |(go_at_call 207;refine hV.mono ?_;rintro e v1 ⟨rfl,rfl⟩))
 clear hV
 go_loopw [6,7,8,18] (fun _ _ _ iv wr=>∃ i:Nat,i≤n∧iv= .int .i64 (i:Int)∧hU w.heap.size w.heap.size (Lib.byteCells (UInt8.ofNat n::(vs.take i).flatMap gU)) wr∧Below w.heap.size w wr) (fun _ _ _ iv _=>n - (intOf iv).toNat)
 case atStart=>
  refine⟨0,by omega,rfl,?_,H2.out.2⟩
  have h5:=H2.out.1
  have e:([]++[Value.int .u8 ((n:Int))]:List Value)=Lib.byteCells [UInt8.ofNat n]:=by
   have:((UInt8.ofNat n).toNat:Int)=(n:Int):=by simp;omega
   show[Value.int .u8 (n:Int)]=[Value.int .u8 ((UInt8.ofNat n).toNat:Int)]
   rw[this]
  rw[e]at h5
  exact h5
 case round=>
  obtain⟨i,hi,rfl,hbd,hb⟩:=hrel
  have HB:=aB (aA hbd hb)
  clear hbd
  by_cases hlt:i<n
  · have hil:i<vs.length:=by have:=H.out.2.1;omega
    obtain⟨b,off,rfl,hbl,hcc⟩:=H.out.1.resolve_left (fun e=>by rw[e]at hil;simp at hil)
    obtain⟨t,ht⟩:∃ t,vs[i]=t:=⟨_,rfl⟩
    have d:=(hb.cell (p:=⟨b,off+i,none⟩) hbl).trans (hcc i hil)
    rw[ht]at d
    have hto:=H.out.2.2.1 t (by rw[← ht];exact List.getElem_mem hil)
    have htk:(vs.take (i+1)).flatMap gU=(vs.take i).flatMap gU++gU t:=by rw[List.take_succ_eq_append_getElem hil,List.flatMap_append,ht];simp
    have hlen:(UInt8.ofNat n::(vs.take i).flatMap gU).length≤100:=by rw[List.length_cons,jV,List.length_take];omega
    have hP:=put6_any t hto.1 hto.2
    have r1:(i:Int)<(n:Int):=by omega
    have HX:=aB (aA htk (aA hlen hP))
    clear hcc ht htk hto hlen hP hb
    go_wp2_with (first
     |(go_at_call 152;go_loud (refine(bld_text H3.out.1 _ (by rw[Lib.byteCells_length];have:=HX.out.2.1;have h6:(⟨(gU t).toArray⟩:ByteArray).size=6:=lR t;omega) H3.out.2.size).mono ?_);rintro e w4 ⟨rfl,hB4,hb4⟩;have H4:=aB (aA hB4 (H3.out.2.trans hb4));clear hB4 hb4)
     |(go_at_call 54;refine(HX.out.2.2 _).mono ?_;rintro e w3 ⟨rfl,hb3⟩
       have hB3:hU w.heap.size w.heap.size (Lib.byteCells (UInt8.ofNat n::(vs.take i).flatMap gU)) w3:=bld_below HB.out.1 hb3
       have H3:=aB (aA hB3 (HB.out.2.trans (hb3.mono HB.out.2.size)));clear hb3 hB3))
    go_roundw
    case rel=>
     refine⟨i+1,by omega,by go_num,?_,H4.out.2⟩
     have h5:=H4.out.1
     rw[str_cells,←byte_app]at h5
     rw[HX.out.1]
     exact h5
    case measure=>simp[intOf];omega
  · obtain rfl:i=n:=by omega
    clear hb
    go_wp2_with (go_at_call 155;go_loud (refine(bld_string HB.out.1 HB.out.2.size).mono ?_);rintro e w4 ⟨rfl,hb4⟩;have H4:=aB (HB.out.2.trans hb4);clear hb4)
    go_ret2
    refine⟨?_,H4.out⟩
    rw[List.take_of_length_le (by have:=H.out.2.1;omega)]
    unfold fG
    rw[H.out.2.1]
    rfl
theorem encV_len {vs:List Int} (h:bK vs=true):(fG vs).length≤49:=by
 simp only[bK,Bool.and_eq_true,decide_eq_true_eq]at h
 unfold fG
 rw[List.length_cons,jV]
 omega
theorem str_add (a b:List UInt8):((⟨a.toArray⟩:ByteArray)++(⟨b.toArray⟩:ByteArray))=⟨(a++b).toArray⟩:=by
 apply ByteArray.ext
 simp
theorem bQ (l:List UInt8):(⟨l.toArray⟩:ByteArray).size=l.length:=by simp[ByteArray.size]
end
namespace Rw
def putK:Nat→Nat→List UInt8
 |0,v=>[UInt8.ofNat v]
 |k+1,v=>if v<128 then[UInt8.ofNat v]else UInt8.ofNat (v%128+128)::putK k (v/128)
def putF (v:Nat):List UInt8:=putK 8 v
theorem putK_small (k:Nat) {v:Nat} (h:v<128):putK k v=[UInt8.ofNat v]:=by
 cases k with
 |zero=>rfl
 |succ k=>unfold putK;rw[if_pos h]
theorem putK_big (k:Nat) {v:Nat} (h:128≤v):putK (k+1) v=UInt8.ofNat (v%128+128)::putK k (v/128):=by
 rw[putK,if_neg (by omega)]
theorem putK_len (k:Nat):∀ v,1≤(putK k v).length∧(putK k v).length≤k+1:=by
 induction k with
 |zero=>intro v;simp[putK]
 |succ k ih=>
  intro v
  rw[putK]
  split
  · simp
  · have:=ih (v/128)
    simp only[List.length_cons]
    omega
end Rw
section
open Go.RowKit
theorem or128 (u:Nat):bits .or .u8 ((u:Int)%256) 128=(((UInt8.ofNat (u%128+128)).toNat:Nat):Int):=by
 have h:=(bits_nat .u8 8 (by decide) (fun n h0 h1=>by rw[IntKind.wrap_u8];omega) (u%256) 128 (by omega) (by omega)).2
 have e:(u%256) ||| 128=u%128+128:=by
  have hd:u%256=128*(u/128%2)+u%128:=by omega
  have:u/128%2=0∨u/128%2=1:=by omega
  have h7:u%128<2 ^ 7:=by omega
  rcases this with h|h
  · rw[h]at hd
    have:=Nat.two_pow_add_eq_or_of_lt h7 1
    rw[show u%256=u%128 from by omega,Nat.or_comm,←show 2 ^ 7*1=128 from rfl,←this]
    omega
  · rw[h]at hd
    have:=Nat.two_pow_add_eq_or_of_lt h7 1
    have e2:u%256=128 ||| u%128:=by
     rw[show(128:Nat)=2 ^ 7*1 from rfl,←this];omega
    rw[e2,Nat.or_comm,←Nat.or_assoc,Nat.or_self,show(128:Nat)=2 ^ 7*1 from rfl,←this]
    omega
 rw[e]at h
 have h3:((u%256:Nat):Int)=(u:Int)%256:=by omega
 rw[h3]at h
 have h4:(UInt8.ofNat (u%128+128)).toNat=u%128+128:=by simp;omega
 rw[h4]
 exact h
set_option maxHeartbeats 400000 in
set_option maxRecDepth 100000 in
theorem putvar_any (v:Nat) (w:World) (hv:v<9223372036854775808):
 Calls Tryz.prog 151 #[.int .i64 v] w fun e w'=>e= .returned (.string ⟨(Rw.putF v).toArray⟩)∧Below w.heap.size w w':=by
 go_enter Tryz.func151,Tryz.ntmps151
 go_wp2
 go_loopw [0,3] (fun x b wr=>∃ (u f:Nat) (l:List UInt8),x= .int .i64 (u:Int)∧l++Rw.putK f u=Rw.putF v∧u<128 ^ (f+1)∧l.length+f=8∧OwnB wr w.heap.size b l∧Below w.heap.size w wr)
  (fun x _ _=>(intOf x).toNat)
 case atStart=>exact⟨v,8,[],rfl,rfl,by omega,rfl,OwnB.nil _ _,Below.refl _ _⟩
 case round=>
  obtain⟨u,f,l,rfl,hl,hu,hf,hown,hbel⟩:=hrel
  have HL:=aB hl
  have HU:=aB hu
  have HF:=aB hf
  have HV:=aB hv
  clear hl hu hf hv
  by_cases hlt:128≤u
  · obtain⟨c,hc,Hc⟩:∃ c:UInt8,bits .or .u8 ((u:Int)%256) 128=(c.toNat:Int)∧Hid (c=UInt8.ofNat (u%128+128)):=⟨_,or128 u,rfl⟩
    go_wp2_with (at_builtin;refine iM rfl _ _ rfl w.heap.size _ l rfl (hown.alloc _) ⟨wr.heap.size,0,none⟩ 1 1 [c] rfl rfl (new_b _ _ _ _ ?c1) ?c2 ?c3 ?_)
    case c1=>rfl
    case c2=>have:=HF.out;omega
    case c3=>have:=hbel.size;simp;omega
    intro v' w1 hown1 hg
    have hbel1:=below_app hbel hown (Nat.le_refl _) hbel.size hg
    clear hg hown hbel
    go_wp2
    go_roundw
    case rel=>
     obtain⟨f',rfl⟩:∃ f',f=f'+1:=by
      rcases f with _|f'
      · have:=HU.out;omega
      · exact⟨f',rfl⟩
     refine⟨u/128,f',l++[c],by go_num,?_,?_,?_,hown1,hbel1⟩
     · rw[← HL.out,Rw.putK_big f' hlt,Hc.out];simp
     · have:=HU.out;rw[Nat.pow_succ]at this;omega
     · have:=HF.out;simp;omega
    case measure=>simp[intOf];omega
  · have hc:UInt8.toNat (UInt8.ofNat u)=u:=by simp;omega
    have Hc:=aB hc
    clear hc
    go_wp2_with (at_builtin;refine iM rfl _ _ rfl w.heap.size _ l rfl (hown.alloc _) ⟨wr.heap.size,0,none⟩ 1 1 [UInt8.ofNat u] rfl rfl (new_b _ _ _ _ ?c1) ?c2 ?c3 ?_)
    case c1=>simp only[dP,List.map,Hc.out]
    case c2=>have:=HF.out;omega
    case c3=>have:=hbel.size;simp;omega
    intro v' w1 hown1 hg
    have hbel1:=below_app hbel hown (Nat.le_refl _) hbel.size hg
    have hs:=hown1.str
    clear hg hown hbel
    go_wp2
    go_ret
    refine⟨ret_s ?_,hbel1⟩
    rw[← HL.out,Rw.putK_small f (by omega)]
end
end Go.Proofs.YtpfibkgmfapnjaaGreatDoor
