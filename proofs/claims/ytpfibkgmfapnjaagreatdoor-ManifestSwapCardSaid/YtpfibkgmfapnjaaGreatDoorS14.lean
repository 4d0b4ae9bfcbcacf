/- A log, plain: what each act makes of it and of its disk. Of no program. -/
import Derived.Test.YtpfibkgmfapnjaaGreatDoorS13
set_option linter.unusedSimpArgs false
set_option linter.unusedVariables false
namespace Go.Proofs.YtpfibkgmfapnjaaGreatDoor
section
open Go.RowKit Go.Lib
structure Lg where
 dir:ByteArray
 size:Int
 m:List (Int×List ByteArray)
 op:Int
 long:Int
 torn:Bool
 left:ByteArray
def cD (dir:ByteArray) (n:Int):ByteArray:=aV dir n.toNat
def Lg.first (L:Lg):Int:=(L.m.map (·.1)).headD 0
def Lg.last (L:Lg):Int:=(L.m.map (·.1)).getLastD 0
def aQ (r:ByteArray):ByteArray:=⟨(cF r.data.toList).toArray⟩
def Lg.write (L:Lg) (D:Dk):Int×Dk:=
 let a:=D.remove (bR L.dir)
 if a.1≠0∧a.1≠22 then a else
 let b:=a.2.create (bR L.dir)
 if b.1≠0 then b else
 let c:=b.2.app (bR L.dir) L.left
 if c.1≠0 then c else
 let d:=c.2.sync (bR L.dir)
 if d.1≠0 then d else d.2.rename (bR L.dir) (cD L.dir L.last)
def Lg.mended (L:Lg) (D:Dk):Int×Dk×Lg:=
 if L.torn=false then(0,D,L)else
 let r:=L.write D
 if r.1=24 then
  let f:=r.2.remove (bR L.dir)
  if f.1=20 then(20,f.2,L)else(24,f.2,L)
 else if r.1=0 then(0,r.2,{L with torn:=false,left:=ByteArray.empty})else(r.1,r.2,L)
def Lg.begin_ (L:Lg) (D:Dk):Int×Dk×Lg:=
 if 4294967295<L.last+1 then(24,D,L)else
 let r:=D.create (cD L.dir (L.last+1))
 if r.1≠0 then(r.1,r.2,L)else(0,r.2,{L with m:=aG L.m (L.last+1) [],op:=L.last+1,long:=0})
def Lg.sync (L:Lg) (D:Dk):Int×Dk:=if L.op=0 then(0,D)else D.sync (cD L.dir L.op)
def Lg.rotate (L:Lg) (D:Dk):Int×Dk×Lg:=
 let a:=L.mended D
 if a.1≠0 then a else
 let s:=a.2.2.sync a.2.1
 if s.1≠0 then(s.1,s.2,a.2.2)else(0,s.2,{a.2.2 with op:=0,long:=0})
def Lg.full (L:Lg) (r:ByteArray):Bool:=decide (0<L.op)&&decide (0<L.long)&&decide (L.size<L.long+(aQ r).size)
def Lg.at_ (L:Lg) (n:Int):List ByteArray:=(aH L.m n).getD []
def Lg.lay (L:Lg) (D:Dk) (r:ByteArray):Int×Dk×Lg:=
 let d:=D.app (cD L.dir L.op) (aQ r)
 if d.1≠0 then(d.1,d.2,L)else(0,d.2,{L with long:=L.long+(aQ r).size,m:=aG L.m L.op (L.at_ L.op++[r])})
def Lg.append (L:Lg) (D:Dk) (r:ByteArray):Int×Dk×Lg:=
 if 131072<r.size then(2,D,L)else
 let a:=L.mended D
 if a.1≠0 then a else
 let b:=if a.2.2.full r then a.2.2.rotate a.2.1 else(0,a.2.1,a.2.2)
 if b.1≠0 then b else
 let c:=if b.2.2.op=0 then b.2.2.begin_ b.2.1 else(0,b.2.1,b.2.2)
 if c.1≠0 then c else c.2.2.lay c.2.1 r
def Lg.dropK (below:Int):List Int→Lg→Dk→Int×Dk×Lg
 |[],L,D=>(0,D,L)
 |n::ns,L,D=>if below≤n∨n=L.op then Lg.dropK below ns L D else
  let r:=D.remove (cD L.dir n)
  if r.1≠0 then(r.1,r.2,L)else
  Lg.dropK below ns (if(aW L.m n).length=0 then {L with m:=aW L.m n,torn:=false,left:=ByteArray.empty} else {L with m:=aW L.m n}) r.2
def Lg.drop (L:Lg) (D:Dk) (below:Int):Int×Dk×Lg:=Lg.dropK below (L.m.map (·.1)) L D
def Lg.records (L:Lg) (from_:Int):List ByteArray:=(L.m.filter (fun p=>decide (from_≤p.1))).flatMap (·.2)
def aM (b:ByteArray):List ByteArray:=(scan b.data.toList).1.map (fun l=>⟨l.toArray⟩)
def dI (b:ByteArray):Nat:=(scan b.data.toList).2
def loadK:List (Nat×ByteArray)→List (Int×List ByteArray)→Int×List (Int×List ByteArray)×Bool×ByteArray
 |[],acc=>(0,acc,false,ByteArray.empty)
 |p::S,acc=>if dI p.2=p.2.size then loadK S (acc++[((p.1:Int),aM p.2)])
  else if S=[]then(0,acc++[((p.1:Int),aM p.2)],true,p.2.extract 0 (dI p.2))else(31,acc++[((p.1:Int),aM p.2)],false,ByteArray.empty)
def aY (dir:ByteArray) (S:List (Nat×Fl)) (M:Option Fl):Fm:=S.map (fun p=>(aV dir p.1,p.2))++(match M with|none=>[]|some f=>[(bR dir,f)])
structure cL (S:List (Nat×Fl)):Prop where
 lt:(S.map (·.1)).Pairwise (fun a b=>a<b)
 rng:∀ p∈S,1≤p.1∧p.1<4294967296
section
variable {K V:Type} [DecidableEq K]
theorem cQ {A B:List (K×V)} {k:K} (h:∀ p∈A,p.1≠k):aH (A++B) k=aH B k:=by
 unfold aH
 rw[List.find?_append]
 have:A.find? (fun p=>decide (p.1=k))=none:=List.find?_eq_none.2 (fun p hp e=>h p hp (by simpa using e))
 rw[this]
 rfl
theorem getL_none {A:List (K×V)} {k:K} (h:∀ p∈A,p.1≠k):aH A k=none:=by
 unfold aH
 rw[List.find?_eq_none.2 (fun p hp e=>h p hp (by simpa using e))]
 rfl
theorem gR (k:K) (v:V) (B:List (K×V)):aH ((k,v)::B) k=some v:=by simp[aH]
theorem map_ne {A:List (K×V)} {k:K} {v:V} (h:∀ p∈A,p.1≠k):A.map (fun p=>if p.1=k then(k,v)else p)=A:=by
 conv=>rhs;rw[← List.map_id A]
 refine List.map_congr_left (fun p hp=>?_)
 simp[h p hp]
theorem lH {A B:List (K×V)} {k:K} {v u:V} (hA:∀ p∈A,p.1≠k) (hB:∀ p∈B,p.1≠k):aG (A++(k,v)::B) k u=A++(k,u)::B:=by
 unfold aG
 rw[if_pos (by simp),List.map_append,List.map_cons,map_ne hA,map_ne hB]
 simp
theorem filter_ne {A:List (K×V)} {k:K} (h:∀ p∈A,p.1≠k):A.filter (fun p=>decide (p.1≠k))=A:=List.filter_eq_self.2 (fun p hp=>by simpa using h p hp)
theorem delL_mid {A B:List (K×V)} {k:K} {v:V} (hA:∀ p∈A,p.1≠k) (hB:∀ p∈B,p.1≠k):aW (A++(k,v)::B) k=A++B:=by
 unfold aW
 rw[List.filter_append,List.filter_cons_of_neg (by simp),filter_ne hA,filter_ne hB]
theorem delL_none {A:List (K×V)} {k:K} (hA:∀ p∈A,p.1≠k):aW A k=A:=filter_ne hA
theorem fM {A:List (K×V)} {k:K} {v:V} (hA:∀ p∈A,p.1≠k):aG A k v=A++[(k,v)]:=by
 unfold aG
 rw[if_neg]
 intro h
 obtain⟨p,hp,e⟩:=List.any_eq_true.1 h
 exact hA p hp (by simpa using e)
end
variable {dir:ByteArray} {S S0:List (Nat×Fl)} {M:Option Fl} {n:Nat} {f f':Fl}
theorem cL.nil:cL []:=⟨List.Pairwise.nil,fun p hp=>by simp at hp⟩
theorem cL.mid {A B:List (Nat×Fl)} (h:cL (A++(n,f)::B)):(∀ p∈A,p.1<n)∧(∀ p∈B,n<p.1)∧1≤n∧n<4294967296:=by
 have h1:=h.lt
 rw[List.map_append,List.map_cons]at h1
 obtain⟨_,h2,h3⟩:=List.pairwise_append.1 h1
 refine⟨fun p hp=>h3 p.1 (List.mem_map_of_mem hp) n (by simp),fun p hp=>(List.pairwise_cons.1 h2).1 p.1 (List.mem_map_of_mem hp),?_⟩
 exact h.rng (n,f) (by simp)
theorem cL.swap {A B:List (Nat×Fl)} (h:cL (A++(n,f)::B)) (f':Fl):cL (A++(n,f')::B):=by
 refine⟨?_,fun p hp=>?_⟩
 · have:=h.lt
   rw[List.map_append,List.map_cons]at this ⊢
   exact this
 · rcases List.mem_append.1 hp with hp|hp
   · exact h.rng p (List.mem_append_left _ hp)
   · rcases List.mem_cons.1 hp with rfl|hp
     · exact h.rng (n,f) (by simp)
     · exact h.rng p (List.mem_append_right _ (List.mem_cons_of_mem _ hp))
theorem cL.add (h:cL S) (hn:∀ p∈S,p.1<n) (h1:1≤n) (h2:n<4294967296) (f:Fl):cL (S++[(n,f)]):=by
 refine⟨?_,fun p hp=>?_⟩
 · rw[List.map_append,List.pairwise_append]
   refine⟨h.lt,List.pairwise_singleton _ _,fun a ha b hb=>?_⟩
   obtain⟨p,hp,rfl⟩:=List.mem_map.1 ha
   simp at hb
   subst hb
   exact hn p hp
 · rcases List.mem_append.1 hp with hp|hp
   · exact h.rng p hp
   · simp at hp;subst hp;exact⟨h1,h2⟩
theorem segs_ne {A:List (Nat×Fl)} (h1:∀ p∈A,p.1≠n∧p.1<4294967296) (h2:n<4294967296):∀ p∈A.map (fun p=>(aV dir p.1,p.2)),p.1≠aV dir n:=by
 intro p hp e
 obtain⟨q,hq,rfl⟩:=List.mem_map.1 hp
 exact(h1 q hq).1 (segN_inj (h1 q hq).2 h2 e)
theorem mendL_ne (M:Option Fl) (n:Nat):∀ p∈(match M with|none=>[]|some f=>[(bR dir,f)]:Fm),p.1≠aV dir n:=by
 intro p hp e
 cases M with
 |none=>simp at hp
 |some f=>simp at hp;subst hp;exact segN_mend dir n e.symm
theorem iG (A B:List (Nat×Fl)) (n:Nat) (f:Fl):aY dir (A++(n,f)::B) M=A.map (fun p=>(aV dir p.1,p.2))++(aV dir n,f)::(B.map (fun p=>(aV dir p.1,p.2))++(match M with|none=>[]|some f=>[(bR dir,f)])):=by
 unfold aY
 rw[List.map_append,List.map_cons,List.append_assoc,List.cons_append]
theorem dmap_left {A B:List (Nat×Fl)} (h:cL (A++(n,f)::B)):∀ p∈A.map (fun p=>(aV dir p.1,p.2)),p.1≠aV dir n:=
 segs_ne (fun p hp=>⟨by have:=h.mid.1 p hp;omega,(h.rng p (List.mem_append_left _ hp)).2⟩) h.mid.2.2.2
theorem dmap_right {A B:List (Nat×Fl)} (h:cL (A++(n,f)::B)):∀ p∈B.map (fun p=>(aV dir p.1,p.2))++(match M with|none=>[]|some f=>[(bR dir,f)]:Fm),p.1≠aV dir n:=by
 intro p hp
 rcases List.mem_append.1 hp with hp|hp
 · exact segs_ne (fun p hp=>⟨by have:=h.mid.2.1 p hp;omega,(h.rng p (List.mem_append_right _ (List.mem_cons_of_mem _ hp))).2⟩) h.mid.2.2.2 p hp
 · exact mendL_ne M n p hp
theorem gV {A B:List (Nat×Fl)} (h:cL (A++(n,f)::B)):aH (aY dir (A++(n,f)::B) M) (aV dir n)=some f:=by
 rw[iG,cQ (dmap_left h),gR]
theorem dmap_set {A B:List (Nat×Fl)} (h:cL (A++(n,f)::B)):aG (aY dir (A++(n,f)::B) M) (aV dir n) f'=aY dir (A++(n,f')::B) M:=by
 rw[iG,iG,lH (dmap_left h) (dmap_right h)]
theorem dmap_del {A B:List (Nat×Fl)} (h:cL (A++(n,f)::B)):aW (aY dir (A++(n,f)::B) M) (aV dir n)=aY dir (A++B) M:=by
 rw[iG,delL_mid (dmap_left h) (dmap_right h)]
 unfold aY
 rw[List.map_append,List.append_assoc]
theorem dmap_get_new (h:cL S) (hn:∀ p∈S,p.1<n) (h2:n<4294967296):aH (aY dir S M) (aV dir n)=none:=
 getL_none (fun p hp=>by
  rcases List.mem_append.1 hp with hp|hp
  · exact segs_ne (fun p hp=>⟨by have:=hn p hp;omega,(h.rng p hp).2⟩) h2 p hp
  · exact mendL_ne M n p hp)
theorem dmap_new (h:cL S) (hn:∀ p∈S,p.1<n) (h2:n<4294967296):aG (aY dir S none) (aV dir n) f=aY dir (S++[(n,f)]) none:=by
 have h3:aY dir S none=S.map (fun p=>(aV dir p.1,p.2)):=by simp[aY]
 rw[h3,fM (segs_ne (fun p hp=>⟨by have:=hn p hp;omega,(h.rng p hp).2⟩) h2)]
 simp[aY]
end
section
open Go.RowKit Go.Lib
def dE (m:Fm) (q:Int) (z:Option Fz) (k:Nat):Dk:=⟨m,true,q,z,k⟩
def lessF:Option Fz→Option Fz
 |none=>none
 |some z=>some ⟨z.n - 1,z.cuts,z.flip⟩
def blown (m:Fm) (q:Int) (cuts:List Int) (flip:Int) (k:Nat):Dk:=⟨bV cuts flip (fJ (m.map (·.1))) 0 m,false,q,none,k⟩
variable {m:Fm} {q:Int} {z:Option Fz} {k:Nat} {s t:ByteArray} {f:Fl} {data:ByteArray}
theorem jJ (hs:dG s=true):(dE m q z k).asked [s]=0:=by simp[Dk.asked,dE,hs]
theorem dk_create (hs:dG s=true) (hg:aH m s=none) (hl:m.length<20000):(dE m q z k).create s=(dE m q z k).act (fun m=>aG m s ⟨ByteArray.empty,0⟩):=by
 unfold Dk.create
 rw[jJ hs,if_neg (by decide)]
 have h1:(dE m q z k).m=m:=rfl
 rw[h1,hg,if_neg (by simp),if_neg (by omega)]
theorem dk_append (hs:dG s=true) (hg:aH m s=some f) (hf:f.data.size+data.size≤1048576) (hq:¬ (0≤q∧data.size≠0∧q<(used m:Int)+data.size)):(dE m q z k).app s data=(dE m q z k).act (fun m=>aG m s ⟨f.data++data,f.syn⟩):=by
 unfold Dk.app
 rw[jJ hs,if_neg (by decide)]
 have h1:(dE m q z k).m=m:=rfl
 have h2:(dE m q z k).quota=q:=rfl
 rw[h1,hg,h2]
 simp only
 rw[if_neg (by omega),if_neg hq]
theorem dk_append_full (hs:dG s=true) (hg:aH m s=some f) (hf:f.data.size+data.size≤1048576) (hq:0≤q∧data.size≠0∧q<(used m:Int)+data.size):(dE m q z k).app s data=(24,dE m q z k):=by
 unfold Dk.app
 rw[jJ hs,if_neg (by decide)]
 have h1:(dE m q z k).m=m:=rfl
 have h2:(dE m q z k).quota=q:=rfl
 rw[h1,hg,h2]
 simp only
 rw[if_neg (by omega),if_pos hq]
theorem dk_sync (hs:dG s=true) (hg:aH m s=some f):(dE m q z k).sync s=(dE m q z k).act (fun m=>aG m s ⟨f.data,f.data.size⟩):=by
 unfold Dk.sync
 rw[jJ hs,if_neg (by decide)]
 have h1:(dE m q z k).m=m:=rfl
 rw[h1,hg]
theorem dk_remove (hs:dG s=true) (hg:aH m s=some f):(dE m q z k).remove s=(dE m q z k).act (fun m=>aW m s):=by
 unfold Dk.remove
 rw[jJ hs,if_neg (by decide)]
 have h1:(dE m q z k).m=m:=rfl
 rw[h1,hg]
variable {dir:ByteArray} {S S0 A:List (Nat×Fl)} {M:Option Fl} {n:Nat} {L:Lg}
def Mended (dir:ByteArray) (S0:List (Nat×Fl)) (n:Nat) (f:Fl) (left:ByteArray) (q:Int) (z:Option Fz) (k:Nat) (L:Lg) (r:Int×Dk×Lg):Prop:=
 (r.1=0∧(∃ z' k',r.2.1=dE (aY dir (S0++[(n,⟨left,left.size⟩)]) none) q z' k'∧k'≤k+6∧(z=none→z'=none))∧r.2.2={L with torn:=false,left:=ByteArray.empty})∨
 (r.1=24∧0≤q∧(∃ z' k',r.2.1=dE (aY dir (S0++[(n,f)]) none) q z' k'∧k'≤k+6∧(z=none→z'=none))∧r.2.2=L)∨
 (r.1=20∧z≠none∧(∃ M' cuts flip k',r.2.1=blown (aY dir (S0++[(n,f)]) M') q cuts flip k'∧k'≤k+6)∧r.2.2=L)
end
section
open Go.RowKit Go.Lib
def cE (b:ByteArray):Prop:=∃ rs:List (List UInt8),b.data.toList=aX rs∧∀ r∈rs,r.length≤131072
theorem cE.scan {b:ByteArray} {rs:List (List UInt8)} (h:b.data.toList=aX rs) (hr:∀ r∈rs,r.length≤131072):aM b=rs.map (fun l=>⟨l.toArray⟩)∧dI b=b.size:=by
 unfold aM dI
 rw[h,scan_whole rs hr]
 refine⟨rfl,?_⟩
 show(aX rs).length=_
 rw[← h]
 simp
theorem cE.whole {b:ByteArray} (h:cE b):dI b=b.size:=by
 obtain⟨rs,h1,h2⟩:=h
 exact(cE.scan h1 h2).2
theorem good_iff {b:ByteArray}:cE b↔dI b=b.size:=by
 refine⟨cE.whole,fun h=>?_⟩
 obtain⟨t,h1,h2,h3,h4⟩:=jQ b.data.toList
 refine⟨_,?_,h4⟩
 have h5:=congrArg List.length h1
 rw[List.length_append,h2]at h5
 unfold dI at h
 have:t=[]:=List.eq_nil_of_length_eq_zero (by rw[bC]at h;omega)
 rw[this,List.append_nil]at h1
 exact h1
theorem ba_eta (r:ByteArray):(⟨r.data.toList.toArray⟩:ByteArray)=r:=by cases r;simp
theorem fF (r:ByteArray):(aQ r).data.toList=cF r.data.toList:=by simp[aQ]
theorem fE (r:ByteArray):(aQ r).size=8+r.size:=by
 rw[bC,fF,eF,←bC]
theorem ba_app (a b:ByteArray):(a++b).data.toList=a.data.toList++b.data.toList:=by simp[ByteArray.data_append]
theorem cE.empty:cE ByteArray.empty:=⟨[],rfl,fun r hr=>by simp at hr⟩
theorem recsOf_empty:aM ByteArray.empty=[]:=rfl
theorem cE.app {b r:ByteArray} (h:cE b) (hr:r.size≤131072):cE (b++aQ r)∧aM (b++aQ r)=aM b++[r]:=by
 obtain⟨rs,h1,h2⟩:=h
 have h3:(b++aQ r).data.toList=aX (rs++[r.data.toList]):=by rw[ba_app,h1,fF,kU,kT]
 have h4:∀ x∈rs++[r.data.toList],x.length≤131072:=by
  intro x hx
  rcases List.mem_append.1 hx with hx|hx
  · exact h2 x hx
  · simp at hx;subst hx;rw[bC]at hr;exact hr
 refine⟨⟨_,h3,h4⟩,?_⟩
 rw[(cE.scan h3 h4).1,(cE.scan h1 h2).1,List.map_append,List.map_singleton,ba_eta]
theorem cE.one {r:ByteArray} (hr:r.size≤131072):cE (aQ r)∧aM (aQ r)=[r]:=by
 have:=cE.app cE.empty hr
 rw[ByteArray.empty_append]at this
 exact this
def iL (f:Fl):Prop:=f.syn=f.data.size
def fR (S:List (Nat×Fl)):List (Int×List ByteArray):=S.map (fun p=>((p.1:Int),aM p.2.data))
def cZ (S:List (Nat×Fl)):List ByteArray:=S.flatMap (fun p=>aM p.2.data)
def aP (S:List (Nat×Fl)):Nat:=(S.map (·.1)).getLastD 0
structure jK (dir:ByteArray) (size:Int) (L:Lg) (S:List (Nat×Fl)):Prop where
 dir:L.dir=dir
 size:L.size=size
 torn:L.torn=false
 left:L.left=ByteArray.empty
 m:L.m=fR S
 rise:cL S
 good:∀ p∈S,cE p.2.data
 syn:∀ p∈S,p.2.syn≤p.2.data.size
 op:(L.op=0∧L.long=0∧∀ p∈S,iL p.2)∨∃ (A:List (Nat×Fl)) (n:Nat) (f:Fl),S=A++[(n,f)]∧L.op=(n:Int)∧L.long=(f.data.size:Int)∧∀ p∈A,iL p.2
def AppS (size:Int) (L:Lg) (S S':List (Nat×Fl)) (r:ByteArray):Prop:=
 (∃ (A:List (Nat×Fl)) (n:Nat) (f:Fl),S=A++[(n,f)]∧L.op=(n:Int)∧¬ (0<f.data.size∧size<(f.data.size:Int)+(aQ r).size)∧S'=A++[(n,⟨f.data++aQ r,f.syn⟩)])∨
 (∃ (A:List (Nat×Fl)) (n:Nat) (f:Fl),S=A++[(n,f)]∧L.op=(n:Int)∧0<f.data.size∧size<(f.data.size:Int)+(aQ r).size∧S'=(A++[(n,⟨f.data,f.data.size⟩)])++[(n+1,⟨aQ r,0⟩)])∨
 (L.op=0∧S'=S++[(aP S+1,⟨aQ r,0⟩)])
variable {dir:ByteArray} {size q:Int} {L:Lg} {S S' A:List (Nat×Fl)} {n k:Nat} {f:Fl} {r:ByteArray}
theorem mOf_keys:(fR S).map (·.1)=S.map (fun p=>(p.1:Int)):=by unfold fR;rw[List.map_map];rfl
theorem lastN_snoc:aP (A++[(n,f)])=n:=by simp[aP]
theorem jK.last (h:jK dir size L S):L.last=(aP S:Int):=by
 unfold Lg.last aP
 rw[h.m,mOf_keys]
 rcases List.eq_nil_or_concat S with rfl|⟨A,p,rfl⟩
 · rfl
 · simp
theorem lastN_lt (h:cL S):∀ p∈S,p.1<aP S+1:=by
 intro p hp
 rcases List.eq_nil_or_concat S with rfl|⟨A,x,rfl⟩
 · simp at hp
 · obtain⟨n,f⟩:=x
   rw[List.concat_eq_append]at hp h ⊢
   rw[lastN_snoc]
   rcases List.mem_append.1 hp with hp|hp
   · have:=h.mid.1 p hp;omega
   · simp at hp;subst hp;simp
theorem cC (A B:List (Nat×Fl)):cZ (A++B)=cZ A++cZ B:=List.flatMap_append
theorem allR_one:cZ [(n,f)]=aM f.data:=by simp[cZ]
theorem fX (A B:List (Nat×Fl)):fR (A++B)=fR A++fR B:=List.map_append
theorem mOf_ne (h:∀ p∈A,p.1<n):∀ p∈fR A,p.1≠(n:Int):=by
 intro p hp e
 obtain⟨x,hx,rfl⟩:=List.mem_map.1 hp
 have:=h x hx
 simp at e
 omega
theorem begin_run (hd:dG dir=true) (hd40:dir.size≤40) (h:jK dir size L S) (h0:L.op=0) (hS:S.length<20000) (hl:aP S+1<4294967296):
 ∃ L',L.begin_ (dE (aY dir S none) q none k)=(0,dE (aY dir (S++[(aP S+1,⟨ByteArray.empty,0⟩)]) none) q none (k+1),L')∧jK dir size L' (S++[(aP S+1,⟨ByteArray.empty,0⟩)])∧L'.op=((aP S+1:Nat):Int):=by
 have hlt:=lastN_lt h.rise
 have hz:cD L.dir (L.last+1)=aV dir (aP S+1):=by unfold cD;rw[h.dir,h.last];rfl
 have hll:(aY dir S none).length<20000:=by unfold aY;simp;exact hS
 unfold Lg.begin_
 rw[if_neg (by rw[h.last];omega),hz,dk_create (iB hd hd40 _) (dmap_get_new h.rise hlt hl) hll]
 have ha:(dE (aY dir S none) q none k).act (fun m=>aG m (aV dir (aP S+1)) ⟨ByteArray.empty,0⟩)=(0,dE (aG (aY dir S none) (aV dir (aP S+1)) ⟨ByteArray.empty,0⟩) q none (k+1)):=rfl
 rw[ha,dmap_new h.rise hlt hl]
 simp only
 rw[if_neg (by decide)]
 refine⟨_,rfl,?_,by rw[h.last];rfl⟩
 have hop:=h.op.resolve_right (by
  rintro⟨A,n,f,rfl,hn,_⟩
  have:=(h.rise.mid (B:=[])).2.2.1
  omega)
 refine⟨h.dir,h.size,h.torn,h.left,?_,h.rise.add hlt (by omega) hl _,fun p hp=>?_,fun p hp=>?_,.inr ⟨S,_,_,rfl,by rw[h.last];rfl,rfl,hop.2.2⟩⟩
 · show aG L.m (L.last+1) []=_
   rw[h.m,h.last,fX]
   have:=fM (A:=fR S) (k:=((aP S+1:Nat):Int)) (v:=([]:List ByteArray)) (mOf_ne hlt)
   exact this
 · rcases List.mem_append.1 hp with hp|hp
   · exact h.good p hp
   · simp at hp;subst hp;exact cE.empty
 · rcases List.mem_append.1 hp with hp|hp
   · exact h.syn p hp
   · simp at hp;subst hp;exact Nat.le_refl _
theorem lay_run (hd:dG dir=true) (hd40:dir.size≤40) (h:jK dir size L (A++[(n,f)])) (ho:L.op=(n:Int)) (hr:r.size≤131072) (hf:f.data.size+(aQ r).size≤1048576):
 (∃ L',L.lay (dE (aY dir (A++[(n,f)]) none) q none k) r=(0,dE (aY dir (A++[(n,⟨f.data++aQ r,f.syn⟩)]) none) q none (k+1),L')∧jK dir size L' (A++[(n,⟨f.data++aQ r,f.syn⟩)])∧L'.op=(n:Int))∨
 (0≤q∧L.lay (dE (aY dir (A++[(n,f)]) none) q none k) r=(24,dE (aY dir (A++[(n,f)]) none) q none k,L)):=by
 have hz:cD L.dir L.op=aV dir n:=by unfold cD;rw[h.dir,ho];rfl
 have hmid:=h.rise.mid (B:=[])
 have hn1:=hmid.2.2.1
 unfold Lg.lay
 rw[hz]
 by_cases hq:0≤q∧(aQ r).size≠0∧q<(used (aY dir (A++[(n,f)]) none):Int)+(aQ r).size
 · right
   rw[dk_append_full (iB hd hd40 n) (gV h.rise) hf hq]
   simp only
   rw[if_pos (by decide)]
   exact⟨hq.1,rfl⟩
 · left
   rw[dk_append (iB hd hd40 n) (gV h.rise) hf hq]
   have ha:(dE (aY dir (A++[(n,f)]) none) q none k).act (fun m=>aG m (aV dir n) ⟨f.data++aQ r,f.syn⟩)=(0,dE (aG (aY dir (A++[(n,f)]) none) (aV dir n) ⟨f.data++aQ r,f.syn⟩) q none (k+1)):=rfl
   rw[ha,dmap_set h.rise]
   simp only
   rw[if_neg (by decide)]
   have hop:∃ (A':List (Nat×Fl)) (n':Nat) (f':Fl),A++[(n,f)]=A'++[(n',f')]∧L.op=(n':Int)∧L.long=(f'.data.size:Int)∧∀ p∈A',iL p.2:=h.op.resolve_left (by
    rintro⟨h0,_⟩
    rw[ho]at h0
    omega)
   obtain⟨A',n',f',he,_,hlong,hsyn⟩:=hop
   obtain⟨rfl,e2⟩:=List.append_inj' he rfl
   simp at e2
   obtain⟨rfl,rfl⟩:=e2
   have hg:=(h.good (n,f) (by simp)).app hr
   refine⟨_,rfl,⟨h.dir,h.size,h.torn,h.left,?_,h.rise.swap _,fun p hp=>?_,fun p hp=>?_,.inr ⟨A,n,_,rfl,ho,?_,hsyn⟩⟩,ho⟩
   · show aG L.m L.op (L.at_ L.op++[r])=_
     unfold Lg.at_
     rw[ho,h.m,fX,fX]
     have h1:fR [(n,f)]=[((n:Int),aM f.data)]:=rfl
     have h2:fR [(n,(⟨f.data++aQ r,f.syn⟩:Fl))]=[((n:Int),aM (f.data++aQ r))]:=rfl
     rw[h1,h2,cQ (mOf_ne hmid.1),gR,lH (mOf_ne hmid.1) (by simp),hg.2]
     rfl
   · rcases List.mem_append.1 hp with hp|hp
     · exact h.good p (List.mem_append_left _ hp)
     · simp at hp;subst hp;exact hg.1
   · rcases List.mem_append.1 hp with hp|hp
     · exact h.syn p (List.mem_append_left _ hp)
     · simp at hp
       subst hp
       have:=h.syn (n,f) (by simp)
       show f.syn≤(f.data++aQ r).size
       rw[ByteArray.size_append]
       simp only at this
       omega
   · show L.long+((aQ r).size:Int)=((f.data++aQ r).size:Int)
     rw[hlong,ByteArray.size_append]
     omega
theorem kP (h:jK dir size L S) (D:Dk):L.mended D=(0,D,L):=by
 unfold Lg.mended
 rw[if_pos h.torn]
theorem rotate_run (hd:dG dir=true) (hd40:dir.size≤40) (h:jK dir size L (A++[(n,f)])) (ho:L.op=(n:Int)):
 ∃ L',L.rotate (dE (aY dir (A++[(n,f)]) none) q none k)=(0,dE (aY dir (A++[(n,⟨f.data,f.data.size⟩)]) none) q none (k+1),L')∧jK dir size L' (A++[(n,⟨f.data,f.data.size⟩)])∧L'.op=0:=by
 have hz:cD L.dir L.op=aV dir n:=by unfold cD;rw[h.dir,ho];rfl
 have hmid:=h.rise.mid (B:=[])
 have hn1:=hmid.2.2.1
 unfold Lg.rotate
 rw[kP h]
 simp only
 rw[if_neg (by decide)]
 have hs:L.sync (dE (aY dir (A++[(n,f)]) none) q none k)=(dE (aY dir (A++[(n,f)]) none) q none k).act (fun m=>aG m (aV dir n) ⟨f.data,f.data.size⟩):=by
  unfold Lg.sync
  rw[if_neg (by rw[ho];omega),hz,dk_sync (iB hd hd40 n) (gV h.rise)]
 rw[hs]
 have ha:(dE (aY dir (A++[(n,f)]) none) q none k).act (fun m=>aG m (aV dir n) ⟨f.data,f.data.size⟩)=(0,dE (aG (aY dir (A++[(n,f)]) none) (aV dir n) ⟨f.data,f.data.size⟩) q none (k+1)):=rfl
 rw[ha,dmap_set h.rise]
 simp only
 rw[if_neg (by decide)]
 have hop:∃ (A':List (Nat×Fl)) (n':Nat) (f':Fl),A++[(n,f)]=A'++[(n',f')]∧L.op=(n':Int)∧L.long=(f'.data.size:Int)∧∀ p∈A',iL p.2:=h.op.resolve_left (by
  rintro⟨h0,_⟩
  rw[ho]at h0
  omega)
 obtain⟨A',n',f',he,_,hlong,hsyn⟩:=hop
 obtain⟨rfl,e2⟩:=List.append_inj' he rfl
 simp at e2
 obtain⟨rfl,rfl⟩:=e2
 refine⟨_,rfl,⟨h.dir,h.size,h.torn,h.left,?_,h.rise.swap _,fun p hp=>?_,fun p hp=>?_,.inl ⟨rfl,rfl,fun p hp=>?_⟩⟩,rfl⟩
 · show L.m=_
   rw[h.m,fX,fX]
   rfl
 · rcases List.mem_append.1 hp with hp|hp
   · exact h.good p (List.mem_append_left _ hp)
   · simp at hp;subst hp;exact h.good (n,f) (by simp)
 · rcases List.mem_append.1 hp with hp|hp
   · exact h.syn p (List.mem_append_left _ hp)
   · simp at hp;subst hp;exact Nat.le_refl _
 · rcases List.mem_append.1 hp with hp|hp
   · exact hsyn p hp
   · simp at hp;subst hp;exact rfl
def Appended (dir:ByteArray) (size q:Int) (L:Lg) (S:List (Nat×Fl)) (r:ByteArray) (k:Nat) (x:Int×Dk×Lg):Prop:=
 (x.1=0∧∃ S' k',x.2.1=dE (aY dir S' none) q none k'∧jK dir size x.2.2 S'∧AppS size L S S' r∧k'≤k+3∧x.2.2.op≠0)∨
 (x.1=24∧0≤q∧∃ S' k',x.2.1=dE (aY dir S' none) q none k'∧jK dir size x.2.2 S'∧cZ S'=cZ S∧aP S'≤aP S+1∧S'.length≤S.length+1∧k'≤k+3)
theorem new_run (hd:dG dir=true) (hd40:dir.size≤40) (h:jK dir size L S) (h0:L.op=0) (hr:r.size≤131072) (hS:S.length+3≤20000) (hl:aP S+1<4294967296):
 ∀ x,x=(let c:=if L.op=0 then L.begin_ (dE (aY dir S none) q none k)else(0,dE (aY dir S none) q none k,L);if c.1≠0 then c else c.2.2.lay c.2.1 r)→
 (x.1=0∧∃ k',x.2.1=dE (aY dir (S++[(aP S+1,⟨aQ r,0⟩)]) none) q none k'∧jK dir size x.2.2 (S++[(aP S+1,⟨aQ r,0⟩)])∧k'≤k+2∧x.2.2.op≠0)∨
 (x.1=24∧0≤q∧∃ k',x.2.1=dE (aY dir (S++[(aP S+1,⟨ByteArray.empty,0⟩)]) none) q none k'∧jK dir size x.2.2 (S++[(aP S+1,⟨ByteArray.empty,0⟩)])∧k'≤k+2):=by
 intro x hx
 obtain⟨L1,hb,hR1,ho1⟩:=begin_run (q:=q) (k:=k) hd hd40 h h0 (by omega) hl
 rw[if_pos h0,hb]at hx
 simp only at hx
 rw[if_neg (by decide)]at hx
 rcases lay_run (q:=q) (k:=k+1) (r:=r) hd hd40 hR1 ho1 hr (by rw[fE];show 0+_≤_;omega)with⟨L2,h2,hR2,ho2⟩|⟨hq,h2⟩
 · rw[h2]at hx
   rw[ByteArray.empty_append]at hx hR2
   subst hx
   exact .inl ⟨rfl,_,rfl,hR2,by omega,by show L2.op≠0;rw[ho2];omega⟩
 · rw[h2]at hx
   subst hx
   exact .inr ⟨rfl,hq,_,rfl,hR1,by omega⟩
theorem append_run (hd:dG dir=true) (hd40:dir.size≤40) (hsz:size≤524288) (h:jK dir size L S) (hr:r.size≤131072) (hS:S.length+3≤20000) (hl:aP S+1<4294967296):
 Appended dir size q L S r k (L.append (dE (aY dir S none) q none k) r):=by
 unfold Lg.append
 rw[if_neg (by omega),kP h]
 simp only
 rw[if_neg (by decide)]
 rcases h.op with⟨h0,h01,h02⟩|⟨A,n,f,rfl,ho,hlong,hsyn⟩
 · have hf:L.full r=false:=by unfold Lg.full;rw[h0];simp
   rw[hf]
   simp only[Bool.false_eq_true,if_false]
   rw[if_neg (by decide)]
   rcases new_run hd hd40 h h0 hr hS hl _ rfl with⟨e,k',e1,e2,e3,e4⟩|⟨e,hq,k',e1,e2,e3⟩
   · exact .inl ⟨e,_,k',e1,e2,.inr (.inr ⟨h0,rfl⟩),by omega,e4⟩
   · refine .inr ⟨e,hq,_,k',e1,e2,?_,by rw[lastN_snoc];omega,by simp,by omega⟩
     rw[cC,allR_one,recsOf_empty,List.append_nil]
 · have hmid:=h.rise.mid (B:=[])
   have hn1:=hmid.2.2.1
   by_cases hfull:0<f.data.size∧size<(f.data.size:Int)+(aQ r).size
   · have hf:L.full r=true:=by
      unfold Lg.full
      rw[ho,hlong,h.size]
      simp only[Bool.and_eq_true,decide_eq_true_eq]
      omega
     rw[hf]
     simp only[if_true]
     obtain⟨L1,hb,hR1,ho1⟩:=rotate_run (q:=q) (k:=k) hd hd40 h ho
     rw[hb]
     simp only
     rw[if_neg (by decide)]
     have hl1:aP (A++[(n,(⟨f.data,f.data.size⟩:Fl))])=n:=lastN_snoc
     have hl0:aP (A++[(n,f)])=n:=lastN_snoc
     have hlen:(A++[(n,(⟨f.data,f.data.size⟩:Fl))]).length=(A++[(n,f)]).length:=by simp
     rcases new_run hd hd40 hR1 ho1 hr (by omega) (by omega) _ rfl with⟨e,k',e1,e2,e3,e4⟩|⟨e,hq,k',e1,e2,e3⟩
     · rw[hl1]at e1 e2
       exact .inl ⟨e,_,k',e1,e2,.inr (.inl ⟨A,n,f,rfl,ho,hfull.1,hfull.2,rfl⟩),by omega,e4⟩
     · rw[hl1]at e1 e2
       refine .inr ⟨e,hq,_,k',e1,e2,?_,by rw[lastN_snoc,hl0];omega,by simp,by omega⟩
       rw[cC,allR_one,recsOf_empty,List.append_nil,cC,cC]
       rfl
   · have hf:L.full r=false:=by
      unfold Lg.full
      rw[ho,hlong,h.size]
      simp only[Bool.and_eq_false_iff,decide_eq_false_iff_not]
      omega
     rw[hf]
     simp only[Bool.false_eq_true,if_false]
     have hne:¬ L.op=0:=by rw[ho];omega
     rw[if_neg (by decide),if_neg hne]
     simp only
     rw[if_neg (by decide)]
     rcases lay_run (q:=q) (k:=k) (r:=r) hd hd40 h ho hr (by rw[fE]at hfull ⊢;omega)with⟨L2,h2,hR2,ho2⟩|⟨hq,h2⟩
     · rw[h2]
       exact .inl ⟨rfl,_,_,rfl,hR2,.inl ⟨A,n,f,rfl,ho,hfull,rfl⟩,by omega,by show L2.op≠0;rw[ho2];omega⟩
     · rw[h2]
       exact .inr ⟨rfl,hq,_,_,rfl,h,rfl,by omega,by omega,by omega⟩
end
section
open Go.RowKit Go.Lib
variable {dir:ByteArray} {size q:Int} {L:Lg} {S S' A:List (Nat×Fl)} {M:Option Fl} {n k:Nat} {f:Fl} {r:ByteArray}
theorem dmap_keys:(aY dir S M).map (·.1)=S.map (fun p=>aV dir p.1)++(if M.isSome then[bR dir]else[]):=by
 unfold aY
 rw[List.map_append,List.map_map]
 cases M<;>rfl
def Bd (f:Fl) (a:Nat):Prop:=∃ au bs:List (List UInt8),f.data.data.toList=aX (au++bs)∧(∀ r∈au++bs,r.length≤131072)∧f.syn=(aX au).length∧au.length=a
end
section
open Go.RowKit Go.Lib
variable {dir:ByteArray} {size q:Int} {L:Lg} {S S' A B:List (Nat×Fl)} {M:Option Fl} {n k:Nat} {f:Fl} {r:ByteArray} {z:Option Fz}
def dataOf (S:List (Nat×Fl)):List (Nat×ByteArray):=S.map (fun p=>(p.1,p.2.data))
def gP (b:ByteArray):ByteArray:=b.extract 0 (dI b)
theorem goodB_spec (b:ByteArray):cE (gP b)∧aM (gP b)=aM b∧(gP b).size≤b.size:=by
 obtain⟨t,h1,h2,h3,h4⟩:=jQ b.data.toList
 have h5:(gP b).data.toList=aX (scan b.data.toList).1:=by
  unfold gP dI
  rw[ByteArray.data_extract,Array.toList_extract,List.extract_eq_take_drop,Nat.sub_zero,List.drop_zero]
  rw[← h2]
  have e:=congrArg (List.take (aX (scan b.data.toList).1).length) h1
  rw[List.take_left]at e
  exact e
 refine⟨⟨_,h5,h4⟩,?_,?_⟩
 · rw[(cE.scan h5 h4).1];rfl
 · unfold gP;rw[ByteArray.size_extract];omega
structure TornL (dir:ByteArray) (size:Int) (L:Lg) (A:List (Nat×Fl)) (n:Nat) (f:Fl):Prop where
 dir:L.dir=dir
 size:L.size=size
 torn:L.torn=true
 left:L.left=gP f.data
 m:L.m=fR (A++[(n,f)])
 op:L.op=0∧L.long=0
 rise:cL (A++[(n,f)])
 good:∀ p∈A,cE p.2.data∧iL p.2
 syn:iL f
structure Rest (S:List (Nat×Fl)):Prop where
 rise:cL S
 syn:∀ p∈S,iL p.2
 good:∀ A n f B,S=A++(n,f)::B→B≠[]→cE f.data
 few:∀ p∈S,p.2.data.size≤1048576
theorem leq_segN {dir:ByteArray} {a b:Nat} (hb:b<4294967296) (h:a<b):iE (aV dir a) (aV dir b)=true:=by
 have:=segN_lt (dir:=dir) hb h
 unfold iE
 rw[decide_eq_true_eq]
 omega
theorem list_segs (h:cL S):(dE (aY dir S M) q z k).list (dir++tW)=S.map (fun p=>aV dir p.1):=by
 unfold Dk.list
 rw[if_pos (show(dE (aY dir S M) q z k).on=true from rfl)]
 have hn:(dE (aY dir S M) q z k).names=fJ ((aY dir S M).map (·.1)):=rfl
 rw[hn]
 refine sorted_unique ?_ ?_ ?_
 · refine((sortB_perm _).filter _).trans ?_
   rw[dmap_keys,List.filter_append]
   have h1:(S.map (fun p=>aV dir p.1)).filter (fun s=>(dir++tW).data.toList.isPrefixOf s.data.toList)=S.map (fun p=>aV dir p.1):=by
    refine List.filter_eq_self.2 (fun s hs=>?_)
    obtain⟨p,_,rfl⟩:=List.mem_map.1 hs
    exact segN_pre dir p.1
   have h2:(if M.isSome then[bR dir]else[]).filter (fun s=>(dir++tW).data.toList.isPrefixOf s.data.toList)=[]:=by
    cases M with
    |none=>rfl
    |some f=>simp only[Option.isSome_some,if_true];rw[List.filter_cons_of_neg (by rw[mend_pre];decide)];rfl
   rw[h1,h2,List.append_nil]
 · exact List.Pairwise.filter _ (sortB_sorted _)
 · have h1:=h.lt
   rw[List.pairwise_map]at h1 ⊢
   exact List.Pairwise.imp_of_mem (fun ha hb hab=>leq_segN (h.rng _ hb).2 hab) h1
end
end Go.Proofs.YtpfibkgmfapnjaaGreatDoor
