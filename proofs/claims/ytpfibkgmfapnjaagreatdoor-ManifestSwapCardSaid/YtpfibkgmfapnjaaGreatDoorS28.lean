/- Wal, plain: numbers in a row; what Drop leaves; what is told from a number on. -/
import Derived.Test.YtpfibkgmfapnjaaGreatDoorS27
import Derived.Test.YtpfibkgmfapnjaaGreatDoorS3
import Derived.Test.YtpfibkgmfapnjaaGreatDoorS12
set_option linter.unusedSimpArgs false
set_option linter.unusedVariables false
namespace Go.Proofs.YtpfibkgmfapnjaaGreatDoor
section
open Go.RowKit Go.Lib
variable {k n:Nat} {L L':Lg} {S S' K T:List (Nat×Fl)} {f:Fl} {dir r:ByteArray} {size q c op long below:Int}
def Cons (S:List (Nat×Fl)):Prop:=S.map (·.1)=List.range' 1 S.length
def SzOk (size:Int) (S:List (Nat×Fl)):Prop:=∀ p∈S,(p.2.data.size:Int)≤size∨(aM p.2.data).length=1
def eM (below op:Int) (S:List (Nat×Fl)):List (Nat×Fl):=S.filter (fun p=>decide (below≤(p.1:Int)∨(p.1:Int)=op))
theorem cL.filter (h:cL S) (p:Nat×Fl→Bool):cL (S.filter p):=
 ⟨List.Pairwise.sublist (List.filter_sublist.map _) h.lt,fun x hx=>h.rng x (List.mem_filter.1 hx).1⟩
theorem dropK_run (hd:dG dir=true) (hd40:dir.size≤40) (below op long:Int):∀ (T K:List (Nat×Fl)) (k:Nat),cL (K++T)→
 ∃ k',k'≤k+T.length∧Lg.dropK below (T.map (fun p=>(p.1:Int))) ⟨dir,size,fR (K++T),op,long,false,ByteArray.empty⟩ (dE (aY dir (K++T) none) q none k)=
  (0,dE (aY dir (K++eM below op T) none) q none k',⟨dir,size,fR (K++eM below op T),op,long,false,ByteArray.empty⟩):=by
 intro T
 induction T with
 |nil=>intro K k _;exact⟨k,Nat.le_refl _,rfl⟩
 |cons p T ih=>
  obtain⟨n,f⟩:=p
  intro K k hr
  have e1:K++(n,f)::T=(K++[(n,f)])++T:=by simp
  rw[List.map_cons,Lg.dropK]
  by_cases hk:below≤(n:Int)∨(n:Int)=op
  · rw[if_pos hk]
    have h1:eM below op ((n,f)::T)=(n,f)::eM below op T:=by
     unfold eM
     rw[List.filter_cons_of_pos (by simpa using hk)]
    rw[h1]
    have e2:K++(n,f)::eM below op T=(K++[(n,f)])++eM below op T:=by simp
    rw[e1,e2]
    obtain⟨k',h2,h3⟩:=ih (K++[(n,f)]) k (by rw[← e1];exact hr)
    exact⟨k',by simp;omega,h3⟩
  · rw[if_neg hk]
    have h1:eM below op ((n,f)::T)=eM below op T:=by
     unfold eM
     rw[List.filter_cons_of_neg (by simpa using hk)]
    rw[h1]
    have hz:cD dir ((n:Nat):Int)=aV dir n:=rfl
    simp only[hz]
    rw[dk_remove (iB hd hd40 n) (gV hr)]
    have ha:(dE (aY dir (K++(n,f)::T) none) q none k).act (fun m=>aW m (aV dir n))=(0,dE (aW (aY dir (K++(n,f)::T) none) (aV dir n)) q none (k+1)):=rfl
    rw[ha,dmap_del hr]
    simp only
    rw[if_neg (by decide)]
    have hmid:=hr.mid
    have hde:aW (fR (K++(n,f)::T)) (n:Int)=fR (K++T):=by
     have e3:fR (K++(n,f)::T)=fR K++((n:Int),aM f.data)::fR T:=by unfold fR;simp
     rw[e3,delL_mid (mOf_ne hmid.1) (fun p hp e=>by
      obtain⟨x,hx,rfl⟩:=List.mem_map.1 hp
      have:=hmid.2.1 x hx
      simp at e
      omega)]
     unfold fR
     simp
    rw[hde]
    have hif:(if(fR (K++T)).length=0 then(⟨dir,size,fR (K++T),op,long,false,ByteArray.empty⟩:Lg)else⟨dir,size,fR (K++T),op,long,false,ByteArray.empty⟩)=⟨dir,size,fR (K++T),op,long,false,ByteArray.empty⟩:=by split<;>rfl
    rw[hif]
    have hr2:cL (K++T):=⟨List.Pairwise.sublist ((List.Sublist.append_left (List.sublist_cons_self _ _) K).map _) hr.lt,fun x hx=>hr.rng x (by
     rcases List.mem_append.1 hx with hx|hx
     · exact List.mem_append_left _ hx
     · exact List.mem_append_right _ (List.mem_cons_of_mem _ hx))⟩
    obtain⟨k',h2,h3⟩:=ih K (k+1) hr2
    exact⟨k',by simp;omega,h3⟩
theorem drop_run (hd:dG dir=true) (hd40:dir.size≤40) (h:jK dir size L S) (below:Int):∃ k',k'≤k+S.length∧L.drop (dE (aY dir S none) q none k) below=
 (0,dE (aY dir (eM below L.op S) none) q none k',⟨dir,size,fR (eM below L.op S),L.op,L.long,false,ByteArray.empty⟩):=by
 obtain⟨k',h1,h2⟩:=dropK_run (size:=size) (q:=q) hd hd40 below L.op L.long S [] k h.rise
 refine⟨k',h1,?_⟩
 have hL:L=⟨dir,size,fR ([]++S),L.op,L.long,false,ByteArray.empty⟩:=by
  have:=h.dir;have:=h.size;have:=h.torn;have:=h.left;have:=h.m
  cases L
  simp_all
 have hk:L.m.map (·.1)=S.map (fun p=>(p.1:Int)):=by rw[h.m,mOf_keys]
 unfold Lg.drop
 rw[hk]
 conv=>lhs;rw[hL]
 exact h2
end
section
open Go.RowKit Go.Lib
variable {F F' G G' H:Nat→Prop} {B:Nat} {w w' w0:World} {lb mp db mb k n:Nat} {L L' L1:Lg} {D D' D1:Dk} {S S':List (Nat×Fl)} {M:Option Fl} {z:Option Fz} {f:Fl} {dir r:ByteArray} {size q c:Int}
structure Aft (S:List (Nat×Fl)):Prop where
 rise:cL S
 syn:∀ p∈S,iL p.2
 good:(∀ p∈S,cE p.2.data)∨∃ (A:List (Nat×Fl)) (n:Nat) (f:Fl),S=A++[(n,f)]∧(∀ p∈A,cE p.2.data)∧¬ cE f.data
def Lv (dir:ByteArray) (size:Int) (L:Lg) (S:List (Nat×Fl)):Prop:=jK dir size L S∨∃ (A:List (Nat×Fl)) (n:Nat) (f:Fl),S=A++[(n,f)]∧TornL dir size L A n f
def LvApp (dir:ByteArray) (size q:Int) (S:List (Nat×Fl)) (r:ByteArray) (k:Nat) (x:Int×Dk×Lg):Prop:=
 (x.1=0∨(x.1=24∧0≤q))∧∃ S' k',x.2.1=dE (aY dir S' none) q none k'∧k'≤k+9∧S'.length≤S.length+1∧aP S'≤aP S+1∧
  ((x.1=0∧jK dir size x.2.2 S'∧x.2.2.op≠0∧cZ S'=cZ S++[r])∨(x.1=24∧Lv dir size x.2.2 S'∧cZ S'=cZ S))
theorem sync_run (hd:dG dir=true) (hd40:dir.size≤40) (h:jK dir size L S):∃ S' k',L.sync (dE (aY dir S none) q none k)=(0,dE (aY dir S' none) q none k')∧k'≤k+1∧jK dir size L S'∧cZ S'=cZ S∧S'.length=S.length∧aP S'=aP S∧iT S'=iT S∧(∀ p∈S',iL p.2)∧S'.map (fun p=>(p.1,p.2.data))=S.map (fun p=>(p.1,p.2.data)):=by
 rcases h.op with⟨h0,h1,hs⟩|⟨A,n,f,rfl,ho,hlong,hs⟩
 · refine⟨S,k,?_,by omega,h,rfl,rfl,rfl,rfl,hs,rfl⟩
   unfold Lg.sync
   rw[if_pos h0]
 · have hn1:=(h.rise.mid (B:=[])).2.2.1
   have hall:∀ p∈A++[(n,(⟨f.data,f.data.size⟩:Fl))],iL p.2:=by
    intro p hp
    rcases List.mem_append.1 hp with hp|hp
    · exact hs p hp
    · rw[List.mem_singleton]at hp;subst hp;rfl
   refine⟨A++[(n,⟨f.data,f.data.size⟩)],k+1,?_,Nat.le_refl _,⟨h.dir,h.size,h.torn,h.left,?_,h.rise.swap _,?_,fun p hp=>Nat.le_of_eq (hall p hp),.inr ⟨A,n,_,rfl,ho,hlong,hs⟩⟩,?_,by simp,by rw[lastN_snoc,lastN_snoc],?_,hall,by simp⟩
   · unfold Lg.sync
     have hz:cD L.dir L.op=aV dir n:=by unfold cD;rw[h.dir,ho];rfl
     rw[if_neg (by rw[ho];omega),hz,dk_sync (iB hd hd40 n) (gV (B:=[]) h.rise)]
     have ha:(dE (aY dir (A++[(n,f)]) none) q none k).act (fun m=>aG m (aV dir n) ⟨f.data,f.data.size⟩)=(0,dE (aG (aY dir (A++[(n,f)]) none) (aV dir n) ⟨f.data,f.data.size⟩) q none (k+1)):=rfl
     rw[ha,dmap_set (B:=[]) h.rise]
   · rw[h.m,fX,fX]
     rfl
   · intro p hp
     rcases List.mem_append.1 hp with hp|hp
     · exact h.good p (List.mem_append_left _ hp)
     · rw[List.mem_singleton]at hp;subst hp;exact h.good (n,f) (by simp)
   · rw[cC,cC,allR_one,allR_one]
   · rw[eB,eB,usedS_one,usedS_one]
end
section
def e00:PE:=⟨[],[],0,[],[]⟩
theorem jC {s:PS} (h:cR s):aZ s.ns []=s.ns:=by
 refine jN LtN.irrefl (fun _ _=>LtN.asymm) (iC _ _) h.nsrt (fun p=>?_)
 rw[kO,List.append_nil,baseN_self h.nsrt.nd,lN h.nsrt.nd]
 exact⟨fun h=>h.1,fun hp=>⟨hp,(h.note p hp).2⟩⟩
theorem applyF_none {s:PS} (h:cR s) (h1:1≤s.next):aO s e00=(0,s):=by
 have hm:max s.next 1=s.next:=by omega
 have hn:=h.nfew
 rcases applyF_notes h (l:=[]) rfl (by simp[aJ])with⟨h2,_⟩|⟨_,h2⟩
 · rw[jC h]at h2;omega
 · unfold e00
   rw[h2,jC h,hm]
def fA:Fi:=⟨0,1,1,5,⟨#[97]⟩,⟨#[98]⟩⟩
def eA:PE:=⟨[fA],[],0,[],[]⟩
def s02:PS:=⟨[fA],2,0,[],[]⟩
theorem validA:bB fA=true:=by decide+kernel
theorem nF00:aZ [] []=[]:=jC good00
theorem aA1:aO s01 eA=(0,s02):=by
 have hr:bO eA=true:=by
  unfold bO eA inI
  simp only[List.all_cons,validA,List.all_nil]
  decide
 have ht:cU s01 eA=(0,[fA],2):=by
  unfold cU s01 eA dU
  simp only[remF,List.map_nil]
  have:iJ (max 1 1) [] (max 1 1) [fA]=some ([((1:Int),fA)],(2:Int)):=by rfl
  rw[this]
  show(0,cV [fA],(2:Int))=_
  rw[sortFi_self (by simp[eP]) (by simp[SrtF])]
 have ho:¬ kY s01 eA:=by
  rintro(⟨h,_⟩|⟨h,_⟩)
  · exact h rfl
  · exact absurd h (by decide)
 have hap:fI [fA]:=by simp[fI]
 have hl:¬ dM eA [fA] (aZ s01.ns eA.ns):=by
  show ¬ dM eA [fA] (aZ [] [])
  rw[nF00]
  unfold dM aJ eA
  simp
 unfold aO
 rw[hr,ht]
 simp only[if_neg ho,hap,not_true_eq_false,if_false,if_neg hl,ne_eq]
 simp
 show(⟨[fA],2,(if 0<eA.log then eA.log else s01.log),(if eA.fl≠[]then eA.fl else s01.fl),aZ [] []⟩:PS)=s02
 rw[nF00]
 rfl
theorem good02:cR s02:=(kS good01 aA1).1
theorem aA2:aO s02 eA=(23,s00):=by
 have hr:bO eA=true:=by
  unfold bO eA inI
  simp only[List.all_cons,validA,List.all_nil]
  decide
 have ht:cU s02 eA=(23,[],0):=by
  unfold cU s02 eA dU
  simp only[remF]
  have:iJ (max 2 1) ([fA].map (fun f=>(f.nu,f))) (max 2 1) [fA]=none:=by rfl
  rw[this]
 unfold aO
 rw[hr,ht]
 simp
end
section
open Go.RowKit
section
variable {α:Type} {cell:α→List Value} {k:Nat} {w w':World} {x:Value} {l:List α} {F F' H:Nat→Prop}
def kE (F:Nat→Prop) (cell:α→List Value) (k:Nat) (w:World) (x:Value) (l:List α):Prop:=
 ∃ a c,x= .slice a l.length c∧l.length≤c∧c≤9223372036854775807∧(a=none→c=0)∧
  (l=[]∨∃ b off,a=some ⟨b,off,none⟩∧¬ F b∧b<w.heap.size∧∀ i (hi:i<l.length) j u,(cell l[i])[j]?=some u→w.cell? ⟨b,off+i*k+j,none⟩=some u)
theorem kE.rd (h:kE F cell k w x l):mA cell k w x l:=by
 obtain⟨a,c,h1,h2,h3,h4,h5⟩:=h
 exact⟨a,c,h1,h2,h3,h4,h5.imp id (fun⟨b,off,q1,_,q2,q3⟩=>⟨b,off,q1,q2,q3⟩)⟩
theorem kE.step (h:kE F cell k w x l) (ht:Tn H w w') (hH:∀ q,q<w.heap.size→H q→F q) (hF:∀ q,F' q→F q∨w.heap.size≤q):kE F' cell k w' x l:=by
 obtain⟨a,c,h1,h2,h3,h4,h5⟩:=h
 exact⟨a,c,h1,h2,h3,h4,h5.imp id (fun⟨b,off,q1,q2,q3,q4⟩=>⟨b,off,q1,fun e=>(hF b e).elim q2 (fun e=>by omega),Nat.lt_of_lt_of_le q3 ht.size,fun i hi j u hu=>ht.cell (q4 i hi j u hu) (fun e=>q2 (hH b q3 e))⟩)⟩
variable {P:Program} {T E:TypeId} {by_ B:Nat} {e:kJ P T E k by_ cell}
theorem rdax_own (h:bE e w B x l) (hF:∀ q,F q→q<B):kE F cell k w x l:=by
 obtain⟨a,c,h1,h2,h3,h4,h5⟩:=h.rda
 refine⟨a,c,h1,h2,h3,h4,h5.imp id (fun⟨b,off,q1,q2,q3⟩=>⟨b,off,q1,fun e=>?_,q2,q3⟩)⟩
 subst h1 q1
 obtain⟨_,h⟩:=h
 rcases h with⟨h,_⟩|⟨g,cap,cur,h,hg,_⟩
 · cases h
 · injection h with h
   injection h with h
   injection h with h
   have:=hF b e
   omega
end
variable {w w' w0:World} {F F' G G' H:Nat→Prop} {B db mb lb mp mm:Nat} {D D':Dk} {L L':Lg} {dir:ByteArray} {s t:PS} {seq:Int} {stuck:Bool} {v:Value}
def StX (F:Nat→Prop) (w:World) (v:Value) (s:PS):Prop:=∃ fv lv nv,v= .agg #[fv,.int .i64 s.next,.int .i64 s.log,lv,nv]∧kE F Fi.cells 6 w fv s.fs∧kE F cI1 1 w lv s.fl∧kE F cNt 2 w nv s.ns
theorem StX.st (h:StX F w v s):StV w v s:=by
 obtain⟨fv,lv,nv,rfl,h1,h2,h3⟩:=h
 exact⟨fv,lv,nv,rfl,h1.rd,h2.rd,h3.rd⟩
theorem StX.step (h:StX F w v s) (ht:Tn H w w') (hH:∀ q,q<w.heap.size→H q→F q) (hF:∀ q,F' q→F q∨w.heap.size≤q):StX F' w' v s:=by
 obtain⟨fv,lv,nv,rfl,h1,h2,h3⟩:=h
 exact⟨fv,lv,nv,rfl,h1.step ht hH hF,h2.step ht hH hF,h3.step ht hH hF⟩
theorem kI.stx (h:kI w B v s) (hF:∀ q,F q→q<B):StX F w v s:=by
 obtain⟨fv,lv,nv,rfl,h1,h2,h3⟩:=h
 exact⟨fv,lv,nv,rfl,rdax_own h1 hF,rdax_own h2 hF,rdax_own h3 hF⟩
structure MS (B:Nat) (w0 w:World) (F G:Nat→Prop) (db mb lb mp mm:Nat) (D:Dk) (L:Lg) (dir:ByteArray) (s:PS) (seq:Int) (stuck:Bool):Prop where
 ws:WS B w0 w (fun q=>F q∨q=mm) G db mb lb mp D L
 c0:w.cell? ⟨mm,0,none⟩=some (.pointer (some ⟨db,0,none⟩))
 c1:w.cell? ⟨mm,1,none⟩=some (.string dir)
 c2:w.cell? ⟨mm,2,none⟩=some (.pointer (some ⟨lb,0,none⟩))
 st:∃ fv lv nv,w.cell? ⟨mm,3,none⟩=some fv∧w.cell? ⟨mm,4,none⟩=some (.int .i64 s.next)∧w.cell? ⟨mm,5,none⟩=some (.int .i64 s.log)∧w.cell? ⟨mm,6,none⟩=some lv∧w.cell? ⟨mm,7,none⟩=some nv∧StX (fun q=>F q∨q=mm) w (.agg #[fv,.int .i64 s.next,.int .i64 s.log,lv,nv]) s
 c8:w.cell? ⟨mm,8,none⟩=some (.int .i64 seq)
 c9:w.cell? ⟨mm,9,none⟩=some (.bool stuck)
 fz:∀ j,w.frozen? ⟨mm,j,none⟩=false
 nf:¬ F mm
 new:B≤mm
 nG:¬ G mm
 n2:¬ aT db mb mm
theorem MS.lt (h:MS B w0 w F G db mb lb mp mm D L dir s seq stuck):mm<w.heap.size:=World.block_lt_of_cell? _ _ h.c0
theorem MS.ltF (h:MS B w0 w F G db mb lb mp mm D L dir s seq stuck):∀ q,F q→q<w.heap.size:=fun q hq=>h.ws.d.d.lt q (.inl hq)
theorem MS.newF (h:MS B w0 w F G db mb lb mp mm D L dir s seq stuck):∀ q,F q→B≤q:=fun q hq=>h.ws.d.new q (.inl hq)
theorem MS.go (h:MS B w0 w F G db mb lb mp mm D L dir s seq stuck) (hw:WS B w0 w' (fun q=>F' q∨q=mm) G' db mb lb mp D' L') (a:fV F F' w w') (ng:¬ G' mm):MS B w0 w' F' G' db mb lb mp mm D' L' dir s seq stuck:=by
 have hl:=h.lt
 obtain⟨fv,lv,nv,h3,h4,h5,h6,h7,hs⟩:=h.st
 refine⟨hw,a.t.cell h.c0 h.nf,a.t.cell h.c1 h.nf,a.t.cell h.c2 h.nf,⟨fv,lv,nv,a.t.cell h3 h.nf,a.t.cell h4 h.nf,a.t.cell h5 h.nf,a.t.cell h6 h.nf,a.t.cell h7 h.nf,?_⟩,a.t.cell h.c8 h.nf,a.t.cell h.c9 h.nf,fun j=>(a.t.frozen (p:=⟨mm,j,none⟩) hl h.nf).trans (h.fz j),fun e=>(a.n mm e).elim h.nf (fun e=>by omega),h.new,ng,h.n2⟩
 refine hs.step a.t (fun q _ e=> .inl e) (fun q e=>?_)
 rcases e with e|e
 · exact(a.n q e).imp .inl id
 · exact .inl (.inr e)
theorem MS.stay (h:MS B w0 w F G db mb lb mp mm D L dir s seq stuck) (hb:Below w.heap.size w w'):MS B w0 w' F G db mb lb mp mm D L dir s seq stuck:=h.go (h.ws.stay hb) (.below hb) h.nG
theorem MS.kept {e:Ending} {r:Int×Dk×Lg} (h:MS B w0 w F G db mb lb mp mm D L dir s seq stuck) (k:Kept G (fun q=>F q∨q=mm) w w' lb mp db mb e r):
 e= .returned (.int .i64 r.1)∧∃ G' F':Nat→Prop,MS B w0 w' F' G' db mb lb mp mm r.2.1 r.2.2 dir s seq stuck∧fV F F' w w':=by
 obtain⟨he,G',F'',h1,h2,h3,h4,h5,h6,h7⟩:=k
 have hl:=h.lt
 have hF:F''=fun q=>(F'' q∧q≠mm)∨q=mm:=funext fun q=>propext ⟨fun e=>(Decidable.em (q=mm)).elim .inr (fun e2=> .inl ⟨e,e2⟩),fun e=>e.elim (fun e=>e.1) (fun e=>h4 q (.inr e))⟩
 have ng:¬ G' mm:=fun e=>(h6 mm e).elim h.nG (fun e=>by omega)
 have st:fV F (fun q=>F'' q∧q≠mm) w w':=⟨h7.mono (fun q e=>((e.elim (h.ws.d.dk2 q) (fun e=>(h.ws.sub q e).1):F q∨q=mm)).resolve_right (fun e2=>by subst e2;exact e.elim h.n2 h.nG)),fun q e=>⟨h4 q (.inl e),fun e2=>h.nf (e2▸e)⟩,fun q e=>(h5 q e.1).imp (fun e2=>e2.resolve_right e.2) id⟩
 have s1:fV (fun q=>F q∨q=mm) F'' w w':=⟨h7.mono (fun q e=>e.elim (h.ws.d.dk2 q) (fun e=>(h.ws.sub q e).1)),h4,h5⟩
 refine⟨he,G',fun q=>F'' q∧q≠mm,h.go (F':=fun q=>F'' q∧q≠mm) ?_ st ng,st⟩
 rw[← hF]
 exact⟨h.ws.d.go h1 s1,h2,h3⟩
theorem MS.disk (h:MS B w0 w F G db mb lb mp mm D L dir s seq stuck) (hd:aF (fun q=>F q∨q=mm) w' db mb D') (t:Tn (aT db mb) w w'):MS B w0 w' F G db mb lb mp mm D' L dir s seq stuck∧fV F F w w':=by
 have st:fV F F w w':=⟨t.mono (fun q e=>(h.ws.d.dk2 q e).resolve_right (fun e2=>by subst e2;exact h.n2 e)),fun _ e=>e,fun _ e=> .inl e⟩
 exact⟨h.go (h.ws.disk hd t).1 st h.nG,st⟩
theorem MS.wsm (h:MS B w0 w F G db mb lb mp mm D L dir s seq stuck) (t:Tn (fun q=>q=mm) w w'):WS B w0 w' (fun q=>F q∨q=mm) G db mb lb mp D L:=
 ⟨⟨h.ws.d.d.frame t (fun q hq e=>by subst e;exact⟨.inr rfl,fun e=>h.n2 (.inl e),fun e=>h.n2 (.inr e)⟩),h.ws.d.new,h.ws.d.b.trans (t.below h.ws.d.hz (fun q e=>by rw[e];exact h.new)),Nat.le_trans h.ws.d.hz t.size⟩,h.ws.l.tn t (fun q e k=>h.nG (k▸e)),h.ws.sub⟩
theorem MS.set9 (h:MS B w0 w F G db mb lb mp mm D L dir s seq stuck) (b:Bool):MS B w0 (w.setCell ⟨mm,9,none⟩ (.bool b)) F G db mb lb mp mm D L dir s seq b:=by
 have t:Tn (fun q=>q=mm) w (w.setCell ⟨mm,9,none⟩ (.bool b)):=tn_setS
 obtain⟨fv,lv,nv,h3,h4,h5,h6,h7,hs⟩:=h.st
 exact⟨h.wsm t,aC h.c0 (by decide),aC h.c1 (by decide),aC h.c2 (by decide),⟨fv,lv,nv,aC h3 (by decide),aC h4 (by decide),aC h5 (by decide),aC h6 (by decide),aC h7 (by decide),hs.step t (fun q _ e=> .inr e) (fun q e=> .inl e)⟩,aC h.c8 (by decide),World.cell?_setCell_same _ _ _ h.c9,fun j=>by rw[World.frozen?_setCell];exact h.fz j,h.nf,h.new,h.nG,h.n2⟩
theorem MS.set8 (h:MS B w0 w F G db mb lb mp mm D L dir s seq stuck) (n:Int):MS B w0 (w.setCell ⟨mm,8,none⟩ (.int .i64 n)) F G db mb lb mp mm D L dir s n stuck:=by
 have t:Tn (fun q=>q=mm) w (w.setCell ⟨mm,8,none⟩ (.int .i64 n)):=tn_setS
 obtain⟨fv,lv,nv,h3,h4,h5,h6,h7,hs⟩:=h.st
 exact⟨h.wsm t,aC h.c0 (by decide),aC h.c1 (by decide),aC h.c2 (by decide),⟨fv,lv,nv,aC h3 (by decide),aC h4 (by decide),aC h5 (by decide),aC h6 (by decide),aC h7 (by decide),hs.step t (fun q _ e=> .inr e) (fun q e=> .inl e)⟩,World.cell?_setCell_same _ _ _ h.c8,aC h.c9 (by decide),fun j=>by rw[World.frozen?_setCell];exact h.fz j,h.nf,h.new,h.nG,h.n2⟩
theorem MS.setS (h:MS B w0 w F G db mb lb mp mm D L dir s seq stuck) {fv lv nv:Value} (hx:StX (fun q=>F q∨q=mm) w (.agg #[fv,.int .i64 t.next,.int .i64 t.log,lv,nv]) t):
 MS B w0 (((((w.setCell ⟨mm,3,none⟩ fv).setCell ⟨mm,4,none⟩ (.int .i64 t.next)).setCell ⟨mm,5,none⟩ (.int .i64 t.log)).setCell ⟨mm,6,none⟩ lv).setCell ⟨mm,7,none⟩ nv) F G db mb lb mp mm D L dir t seq stuck:=by
 have tt:Tn (fun q=>q=mm) w (((((w.setCell ⟨mm,3,none⟩ fv).setCell ⟨mm,4,none⟩ (.int .i64 t.next)).setCell ⟨mm,5,none⟩ (.int .i64 t.log)).setCell ⟨mm,6,none⟩ lv).setCell ⟨mm,7,none⟩ nv):=(((tn_setS.trans tn_setS).trans tn_setS).trans tn_setS).trans tn_setS
 obtain⟨fv0,lv0,nv0,h3,h4,h5,h6,h7,_⟩:=h.st
 have keep:∀ {j:Nat} {u:Value},w.cell? ⟨mm,j,none⟩=some u→j≠3→j≠4→j≠5→j≠6→j≠7→(((((w.setCell ⟨mm,3,none⟩ fv).setCell ⟨mm,4,none⟩ (.int .i64 t.next)).setCell ⟨mm,5,none⟩ (.int .i64 t.log)).setCell ⟨mm,6,none⟩ lv).setCell ⟨mm,7,none⟩ nv).cell? ⟨mm,j,none⟩=some u:=
  fun hc n3 n4 n5 n6 n7=>aC (aC (aC (aC (aC hc (Ne.symm n3)) (Ne.symm n4)) (Ne.symm n5)) (Ne.symm n6)) (Ne.symm n7)
 refine⟨h.wsm tt,keep h.c0 (by decide) (by decide) (by decide) (by decide) (by decide),keep h.c1 (by decide) (by decide) (by decide) (by decide) (by decide),keep h.c2 (by decide) (by decide) (by decide) (by decide) (by decide),⟨fv,lv,nv,?_,?_,?_,?_,?_,hx.step tt (fun q _ e=> .inr e) (fun q e=> .inl e)⟩,keep h.c8 (by decide) (by decide) (by decide) (by decide) (by decide),keep h.c9 (by decide) (by decide) (by decide) (by decide) (by decide),fun j=>by simp only[World.frozen?_setCell];exact h.fz j,h.nf,h.new,h.nG,h.n2⟩
 · exact(aC (aC (aC (aC (World.cell?_setCell_same _ _ _ h3) (by decide)) (by decide)) (by decide)) (by decide))
 · exact(aC (aC (aC (World.cell?_setCell_same _ _ _ (aC h4 (by decide))) (by decide)) (by decide)) (by decide))
 · exact(aC (aC (World.cell?_setCell_same _ _ _ (aC (aC h5 (by decide)) (by decide))) (by decide)) (by decide))
 · exact(aC (World.cell?_setCell_same _ _ _ (aC (aC (aC h6 (by decide)) (by decide)) (by decide))) (by decide))
 · exact(World.cell?_setCell_same _ _ _ (aC (aC (aC (aC h7 (by decide)) (by decide)) (by decide)) (by decide)))
end
section
open Go.RowKit
variable {w w' w0:World} {F F' G G' H:Nat→Prop} {B db mb lb mp mm:Nat} {D D':Dk} {L L':Lg} {dir:ByteArray} {s t:PS} {seq:Int} {stuck:Bool} {v:Value}
theorem jD (h:w.cell? ⟨mm,0,none⟩=some (.pointer (some ⟨db,0,none⟩))):Calls Tryz.prog 43 #[.pointer (some ⟨mm,0,none⟩)] w fun e w'=>e= .returned (.bool false)∧w=w':=by
 go_enter Tryz.func43,Tryz.ntmps43
 go_wp2
 go_ret
 exact⟨rfl,rfl⟩
def MNone (w:World) (p:Value):Prop:=p= .pointer none∨∃ z,p= .pointer (some ⟨z,0,none⟩)∧w.cell? ⟨z,0,none⟩=some (.pointer none)
theorem mdone_at (h:MS B w0 w F G db mb lb mp mm D L dir s seq stuck) (c:Int):Calls Tryz.prog 49 #[.pointer (some ⟨mm,0,none⟩),.int .i64 c] w fun e w'=>e= .returned (.int .i64 c)∧MS B w0 w' F G db mb lb mp mm D L dir s seq (decide (c=20))∧w'=w.setCell ⟨mm,9,none⟩ (.bool (decide (c=20))):=by
 have h9:=h.set9 (decide (c=20))
 have H9:=aB h9
 have c9:=h.c9
 have f9:=h.fz 9
 clear h9 h
 by_cases hc:c=20
 · subst hc
   go_enter Tryz.func49,Tryz.ntmps49
   go_wp2
   go_ret
   exact⟨rfl,H9.out,rfl⟩
 · have t0:(c == 20)=false:=beq_eq_false_iff_ne.2 hc
   have t1:decide (c=20)=false:=decide_eq_false hc
   rw[t1]at H9 ⊢
   go_enter Tryz.func49,Tryz.ntmps49
   go_wp2
   go_ret
   exact⟨rfl,H9.out,rfl⟩
end
section
open Go.RowKit
variable {w w' w0:World} {F F' G G' H:Nat→Prop} {B db mb lb mp mm:Nat} {D D':Dk} {L L':Lg} {dir:ByteArray} {s t:PS} {seq:Int} {stuck:Bool} {v:Value}
theorem edV00 (w:World):EdV w (.agg #[.slice none 0 0,.slice none 0 0,.int .i64 0,.slice none 0 0,.slice none 0 0]) e00:=⟨_,_,_,_,rfl,mA.nil w,mA.nil w,mA.nil w,mA.nil w⟩
theorem cells5 {b:Nat} {x0 x1 x2 x3 x4 y0 y1 y2 y3 y4:Value} (h:eH w b x0 x1 x2 x3 x4):eH (((((w.setCell ⟨b,0,none⟩ y0).setCell ⟨b,1,none⟩ y1).setCell ⟨b,2,none⟩ y2).setCell ⟨b,3,none⟩ y3).setCell ⟨b,4,none⟩ y4) b y0 y1 y2 y3 y4:=
 ⟨(aC (aC (aC (aC (World.cell?_setCell_same _ _ _ h.z0) (by decide)) (by decide)) (by decide)) (by decide)),
  (aC (aC (aC (World.cell?_setCell_same _ _ _ (aC h.z1 (by decide))) (by decide)) (by decide)) (by decide)),
  (aC (aC (World.cell?_setCell_same _ _ _ (aC (aC h.z2 (by decide)) (by decide))) (by decide)) (by decide)),
  (aC (World.cell?_setCell_same _ _ _ (aC (aC (aC h.z3 (by decide)) (by decide)) (by decide))) (by decide)),
  (World.cell?_setCell_same _ _ _ (aC (aC (aC (aC h.z4 (by decide)) (by decide)) (by decide)) (by decide))),
  fun j=>by simp only[World.frozen?_setCell];exact h.zf j⟩
theorem tn5 {b:Nat} {y0 y1 y2 y3 y4:Value}:Tn (fun q=>q=b) w (((((w.setCell ⟨b,0,none⟩ y0).setCell ⟨b,1,none⟩ y1).setCell ⟨b,2,none⟩ y2).setCell ⟨b,3,none⟩ y3).setCell ⟨b,4,none⟩ y4):=(((tn_setS.trans tn_setS).trans tn_setS).trans tn_setS).trans tn_setS
theorem obZS {b:Nat} (h:gG w b):eH w b (.slice none 0 0) (.int .i64 0) (.int .i64 0) (.slice none 0 0) (.slice none 0 0):=⟨h.z0,h.z1,h.z2,h.z3,h.z4,h.zf⟩
theorem eH.tn {b c:Nat} {x0 x1 x2 x3 x4:Value} (h:eH w b x0 x1 x2 x3 x4) (t:Tn (fun q=>q=c) w w') (hbc:¬ b=c):eH w' b x0 x1 x2 x3 x4:=
 ⟨t.cell h.z0 hbc,t.cell h.z1 hbc,t.cell h.z2 hbc,t.cell h.z3 hbc,t.cell h.z4 hbc,fun j=>(t.frozen (p:=⟨b,j,none⟩) h.lt hbc).trans (h.zf j)⟩
def StAns (s:PS) (w:World) (r:Ending) (w':World):Prop:=∃ v,r= .returned v∧kI w' w.heap.size v s∧Below w.heap.size w w'
set_option maxRecDepth 100000 in
set_option maxHeartbeats 4000000 in
theorem jT (h:MS B w0 w F G db mb lb mp mm D L dir s seq stuck) (hg:cR s) (h1:1≤s.next):Calls Tryz.prog 19 #[.pointer (some ⟨mm,0,none⟩)] w (StAns s w):=by
 obtain⟨w1,hw1⟩:∃ w1,w.alloc (.cells #[.slice none 0 0,.int .i64 0,.int .i64 0,.slice none 0 0,.slice none 0 0] 35)=w1:=⟨_,rfl⟩
 have hb1:Below w.heap.size w w1:=by rw[← hw1];exact(Below.refl _ _).alloc (Nat.le_refl _) _
 have hz1:w1.heap.size=w.heap.size+1:=by rw[← hw1];simp
 have ho1:gG w1 w.heap.size:=by rw[← hw1];exact gG.made w
 have h':=h.stay hb1
 have hn:=jD h'.c0
 obtain⟨fv,lv,nv,h3,h4,h5,h6,h7,hs⟩:=h'.st
 have hap:=apply_any hs.st (edV00 w1) hg (by simp[e00]) (by simp[e00]) (by simp[e00]) (by simp[e00])
 have HAP:=aB hap
 have HN:=aB hn
 have HO:=aB (aA hb1 (aA hz1 ho1))
 have hne:=applyF_none hg h1
 have HNE:=aB hne
 clear hap hn hne hb1 hz1 ho1 h' h hs hg
 go_enter Tryz.func19,Tryz.ntmps19
 go_wp2_with (first
  |(go_at_call 26;refine HAP.out.mono ?_;rintro r w2 ⟨hb2,v,rfl,ho2⟩;rw[HNE.out]at ho2 ⊢;obtain⟨gv,kv,ov,rfl,o1,o2,o3⟩:=ho2;obtain⟨ga,gc,rfl,_,_⟩:=aI o1;obtain⟨ka,kc',rfl,_,_⟩:=aI o2;obtain⟨oa,oc,rfl,_,_⟩:=aI o3;have H2:=aB (aA hb2 (aA o1 (aA o2 o3)));obtain⟨w3,hw3⟩:∃ w3,w2.alloc (.cells #[.slice none 0 0,.int .i64 0,.int .i64 0,.slice none 0 0,.slice none 0 0] 35)=w3:=⟨_,rfl⟩;have hb3:Below w2.heap.size w2 w3:=(by rw[← hw3];exact(Below.refl _ _).alloc (Nat.le_refl _) _);have HZ3:=aB (obZS ((HO.out.2.2.below hb2).below hb3));have HY3:=aB (obZS (by rw[← hw3];exact gG.made w2:gG w3 w2.heap.size));have HB3:=aB hb3;have k0:=HY3.out.z0;have k1:=HY3.out.z1;have k2:=HY3.out.z2;have k3:=HY3.out.z3;have k4:=HY3.out.z4;have f0:=HY3.out.zf 0;have f1:=HY3.out.zf 1;have f2:=HY3.out.zf 2;have f3:=HY3.out.zf 3;have f4:=HY3.out.zf 4;have q0:=HZ3.out.z0;have q1:=HZ3.out.z1;have q2:=HZ3.out.z2;have q3:=HZ3.out.z3;have q4:=HZ3.out.z4;have g0:=HZ3.out.zf 0;have g1:=HZ3.out.zf 1;have g2:=HZ3.out.zf 2;have g3:=HZ3.out.zf 3;have g4:=HZ3.out.zf 4;have hne:¬ w2.heap.size=w.heap.size:=(by have:=hb2.size;have:=HO.out.2.1;omega);have hne2:¬ w.heap.size=w2.heap.size:=(by have:=hb2.size;have:=HO.out.2.1;omega);clear hb2 hb3 o1 o2 o3)
  |(go_at_call 43;go_loud (refine HN.out.mono ?_);rintro e w2 ⟨rfl,rfl⟩))
 have h5:=cells5 HY3.out (y0:= .slice ga s.fs.length gc) (y1:= .int .i64 s.next) (y2:= .int .i64 s.log) (y3:= .slice ka s.fl.length kc') (y4:= .slice oa s.ns.length oc)
 have t5:=tn5 (w:=w3) (b:=w2.heap.size) (y0:= .slice ga s.fs.length gc) (y1:= .int .i64 s.next) (y2:= .int .i64 s.log) (y3:= .slice ka s.fl.length kc') (y4:= .slice oa s.ns.length oc)
 have hl1:=HO.out.2.1
 have hs2:=H2.out.1.size
 have hs3:=HB3.out.size
 have hx:=(HZ3.out.tn t5 hne2)
 have h6:=cells5 hx (y0:= .slice ga s.fs.length gc) (y1:= .int .i64 s.next) (y2:= .int .i64 s.log) (y3:= .slice ka s.fl.length kc') (y4:= .slice oa s.ns.length oc)
 have own:∀ {α:Type} {c:α→List Value} {k:Nat} {T E:TypeId} {y:Nat} {e:kJ Tryz.prog T E k y c} {x:Value} {l:List α} {w4 w6:World},Tn (fun q=>q=w2.heap.size) w3 w4→Tn (fun q=>q=w.heap.size) w4 w6→bE e w2 w1.heap.size x l→bE e w6 w.heap.size x l:=fun t4 t6 ho=>
  aK (t6.row (t4.row (aD ho HB3.out) (fun q hq=>by have:=(ho.lt q hq).2;omega)) (fun q hq=>by have:=(ho.lt q hq).1;omega)) (by omega)
 (try simp only[Exit.inBlock,Exit.then])
 refine bodyPost_ret (eX rfl rfl (load_st h6.z0 h6.z1 h6.z2 h6.z3 h6.z4)) rfl ⟨_,rfl,⟨_,_,_,rfl,own t5 tn5 H2.out.2.1,own t5 tn5 H2.out.2.2.1,own t5 tn5 H2.out.2.2.2⟩,?_⟩
 refine((HO.out.1.trans (H2.out.1.mono (by omega))).trans (HB3.out.mono (by omega))).trans ((t5.below (by omega) (fun q hq=>by omega)).trans (tn5.below ?_ (fun q hq=>by omega)))
 exact Nat.le_trans (by omega) t5.size
end
end Go.Proofs.YtpfibkgmfapnjaaGreatDoor
