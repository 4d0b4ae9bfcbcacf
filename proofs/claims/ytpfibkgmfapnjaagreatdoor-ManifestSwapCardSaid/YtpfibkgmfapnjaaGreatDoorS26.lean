/- A drawn region: an operation that reads no memory may be taken first, wherever the others wait. -/
import Derived.Test.YtpfibkgmfapnjaaGreatDoorS4
import Derived.Test.YtpfibkgmfapnjaaGreatDoorS25
set_option linter.unusedSimpArgs false
set_option linter.unusedVariables false
namespace Go.Proofs.YtpfibkgmfapnjaaGreatDoor
section
open Go.RowKit
section
variable {P:Program} {ops:Array Oper} {Q:Exit→Act→World→Prop} {md:Region.Mode} {S:World→Prop} {k:Nat}
theorem lB {i:Nat} {oi:Oper} {v:Value} (hi:ops[i]?=some oi) (hsel:∀ (j:Nat) (o:Oper) cs b,ops[j]?=some o→o.op≠ .select cs b)
 (hQ:∀ c a w,Q (.panic c) (a.put oi.dst v) w→Q (.panic c) a w) (hik:i≠k):
 ∀ (fuel:Nat) (listed:Array Bool) (a:Act) (w:World),
  (∀ j oj,ops[j]?=some oj→j≠i→listed.getD j true=false→(∀ e∈oj.after,Region.binds md e=true→e.on≠i)→oi.apart ops oj=true)→
  i∈Region.ready md ops listed→YieldsIf P ops (fun _=>True) oi v a→(listed.getD k true=false→S w)→
  bI P md ops Q S k fuel (listed.setIfInBounds i true) (a.put oi.dst v) w→bI P md ops Q S k (fuel+1) listed a w:=by
 intro fuel
 induction fuel with
 |zero=>
  intro listed a w _ hr hy hS H
  refine⟨fun h=>(by rw[h]at hr;cases hr),fun j hj=>?_⟩
  by_cases hji:j=i
  · subst hji;exact hy.wpOp hi trivial ⟨fun hk=>hS (by rwa [getD_set_ne true hik]at hk),H⟩
  · have:=ready_mono hj hji
    rw[H.1]at this
    cases this
 |succ fuel ih=>
  intro listed a w hfree hr hy hS H
  refine⟨fun h=>(by rw[h]at hr;cases hr),fun j hj=>?_⟩
  by_cases hji:j=i
  · subst hji;exact hy.wpOp hi trivial ⟨fun hk=>hS (by rwa [getD_set_ne true hik]at hk),H⟩
  · have h1:=H.2 j (ready_mono hj hji)
    obtain⟨hjun,oj,hoj,hall⟩:=mem_ready.1 hj
    have hnot:∀ e∈oj.after,Region.binds md e=true→e.on≠i:=fun e he hb heq=>by
     have h1:=hall e he hb
     have h0:=(mem_ready.1 hr).1
     rw[heq]at h1
     rcases Nat.lt_or_ge i listed.size with h'|h'
     · simp[h']at h0 h1;rw[h0]at h1;cases h1
     · simp[Array.getElem?_eq_none h']at h1
    have h2:=wpOp_putIf hoj (hfree j oj hoj hji hjun hnot) (fun cs b=>hsel i oi cs b hi) (fun cs b=>hsel j oj cs b hoj) hQ hy h1
    have hfree':∀ k ok,ops[k]?=some ok→k≠i→(listed.setIfInBounds j true).getD k true=false→
     (∀ e∈ok.after,Region.binds md e=true→e.on≠i)→oi.apart ops ok=true:=fun k ok hk hki hun hno=>by
     refine hfree k ok hk hki ?_ hno
     by_cases hjk:j=k
     · subst hjk;exact hjun
     · rw[getD_set_ne true hjk]at hun;exact hun
    have hcm:((listed.setIfInBounds i true).setIfInBounds j true).getD k true=(listed.setIfInBounds j true).getD k true:=by
     rw[← Array.setIfInBounds_comm _ _ hji,getD_set_ne true hik]
    refine wpOp_mono (fun a' w' h3=>⟨fun hk=>h3.2.1 (by rw[hcm];exact hk),ih (listed.setIfInBounds j true) a' w' hfree' (ready_mono hr (Ne.symm hji)) h3.1 (fun hk=>h3.2.1 (by rw[hcm];exact hk)) ?_⟩) h2
    rw[Array.setIfInBounds_comm _ _ hji]
    exact h3.2.2
theorem wpAnyK_pure {i:Nat} {t:Option Tmp} {op:Op} {ty:TypeId} {pos:String} {aft:Array Edge} {gd:Option (Nat×Bool)} {v:Value} {fuel:Nat} {listed:Array Bool} {a:Act} {w:World} (hi:ops[i]?=some ⟨t,op,ty,pos,aft,gd⟩)
 (hs:Region.noSelect ops=true) (hf:Region.free md ops listed i=true) (hr:(Region.ready md ops listed).contains i=true) (hk:i≠k)
 (hQ:∀ c a w,Q (.panic c) (a.put t v) w→Q (.panic c) a w) (hy:YieldsIf P ops (fun _=>True) ⟨t,op,ty,pos,aft,gd⟩ v a) (hS:S w)
 (h:bI P md ops Q S k fuel (listed.setIfInBounds i true) (a.put t v) w):bI P md ops Q S k (fuel+1) listed a w:=
 lB hi (Region.noSelect_spec hs) hQ hk fuel listed a w (Region.free_spec hi hf) (by simpa using hr) hy (fun _=>hS) h
end
end
section
open Go.RowKit Go.Maps Go.Sort Go.Shelf
variable {G F H:Nat→Prop} {w w':World} {lb mp db mb bx nm:Nat} {ms:List (Int×Sg)} {L L':Lg} {D:Dk} {s r:ByteArray} {S:List (Nat×Fl)} {dir:ByteArray}
theorem eQ.addrow (h:eQ G w lb mp db ms L) {k:Int} {a:Option Addr} {c:Nat} {rs:List ByteArray} (hk:L.last<k) (hk1:1≤k∧k≤4294967295) (hfew:L.m.length<20000) (hrs:rs.length≤1000000) (hrow:bE eStr w 0 (.slice a rs.length c) rs)
 (hq:∀ q,(Value.slice a rs.length c).ownBlock=some q→G q∧q≠lb∧q≠mp∧∀ p∈ms,p.2.val.ownBlock≠some q)
 (hm:aL ckZ cvS w' mp (aG ms k ⟨a,c,rs⟩)) (ht:Tn (fun q=>q=mp) w w'):
 eQ G w' lb mp db (ms++[(k,⟨a,c,rs⟩)]) {L with m:=L.m++[(k,rs)]}:=by
 have hne:=h.key_ne hk
 have hl:=World.block_lt_of_cell? _ _ h.c0
 have hn:¬ lb=mp:=h.ne
 rw[fM hne]at hm
 refine⟨ht.cell h.c0 hn,ht.cell h.c1 hn,ht.cell h.c2 hn,ht.cell h.c3 hn,ht.cell h.c4 hn,ht.cell h.c5 hn,ht.cell h.c6 hn,ht.cell h.c7 hn,fun j=>(ht.frozen (p:=⟨lb,j,none⟩) hl hn).trans (h.fz j),hm,?_,?_,?_,h.ne,?_,h.gl,h.gm,?_,fun q hq=>Nat.lt_of_lt_of_le (h.lt q hq) ht.size,?_⟩
 · show L.m++[(k,rs)]=_
   rw[List.map_append,←h.eq]
   rfl
 · intro p hp
   rcases List.mem_append.1 hp with hp|hp
   · exact ht.row (h.rows p hp) (fun q hq e=>(h.off p hp q hq).2 e)
   · simp at hp;subst hp;exact ht.row hrow (fun q h2 e=>(hq q h2).2.2.1 e)
 · rw[List.pairwise_append]
   refine⟨h.sep,List.pairwise_singleton _ _,fun p hp p' hp' q h1 e=>?_⟩
   simp at hp'
   subst hp'
   exact(hq q e).2.2.2 p hp h1
 · intro p hp q h1
   rcases List.mem_append.1 hp with hp|hp
   · exact h.off p hp q h1
   · simp at hp;subst hp;exact⟨(hq q h1).2.1,(hq q h1).2.2.1⟩
 · intro p hp q h1
   rcases List.mem_append.1 hp with hp|hp
   · exact h.gr p hp q h1
   · simp at hp;subst hp;exact(hq q h1).1
 · refine⟨h.ok.dir,?_,?_,?_,?_,h.ok.op,h.ok.long,h.ok.left,h.ok.size⟩
   · intro p hp
     rcases List.mem_append.1 hp with hp|hp
     · exact h.ok.key p hp
     · simp at hp;subst hp;exact hk1
   · show((L.m++[(k,rs)]).map (·.1)).Pairwise _
     rw[List.map_append,List.pairwise_append]
     refine⟨h.ok.rise,List.pairwise_singleton _ _,fun a ha b hb=>?_⟩
     obtain⟨p,hp,rfl⟩:=List.mem_map.1 ha
     simp at hb
     subst hb
     have:=gO h.ok p hp
     omega
   · show(L.m++[(k,rs)]).length≤20000
     rw[List.length_append]
     simp
     omega
   · intro p hp
     rcases List.mem_append.1 hp with hp|hp
     · exact h.ok.recs p hp
     · simp at hp;subst hp;exact hrs
theorem eQ.wider {G':Nat→Prop} (h:eQ G w lb mp db ms L) (hG:∀ q,G q→G' q) (hl:∀ q,G' q→q<w.heap.size):eQ G' w lb mp db ms L:=
 ⟨h.c0,h.c1,h.c2,h.c3,h.c4,h.c5,h.c6,h.c7,h.fz,h.mpl,h.eq,h.rows,h.sep,h.ne,h.off,hG _ h.gl,hG _ h.gm,fun p hp q hq=>hG q (h.gr p hp q hq),hl,h.ok⟩
def span (lb mp z:Nat) (w:World) (q:Nat):Prop:=q=lb∨q=mp∨(z≤q∧q<w.heap.size)
theorem eQ.span {z:Nat} (h:eQ (span lb mp z w) w lb mp db ms L) (hb:Below w.heap.size w w'):eQ (Go.Proofs.YtpfibkgmfapnjaaGreatDoor.span lb mp z w') w' lb mp db ms L:=by
 have hs:=hb.size
 have h1:=h.tn (Tn.ofBelow (F:=fun _=>False) hb) (fun _ _ e=>e)
 refine h1.wider (fun q hq=>?_) (fun q hq=>?_)
 · rcases hq with h2|h2|h2
   · exact .inl h2
   · exact .inr (.inl h2)
   · exact .inr (.inr ⟨h2.1,by omega⟩)
 · rcases hq with h2|h2|h2
   · subst h2;exact h1.lt _ h1.gl
   · subst h2;exact h1.lt _ h1.gm
   · exact h2.2
structure SegD (D:Dk) (dir:ByteArray) (S:List (Nat×Fl)):Prop where
 rise:cL S
 names:D.list (dir++tW)=S.map (fun p=>aV dir p.1)
 get:∀ p∈S,aH D.m (aV dir p.1)=some p.2
 nm:dG dir=true
 d40:dir.size≤40
 few:S.length<20000
theorem SegD.read (h:SegD D dir S) (hon:D.on=true):∀ p∈S,D.read (aV dir p.1)=(p.2.data,0):=by
 intro p hp
 unfold Dk.read
 have ha:D.asked [aV dir p.1]=0:=by unfold Dk.asked;rw[hon];simp[iB h.nm h.d40]
 rw[ha,if_neg (by decide),h.get p hp]
def cX (S:List (Nat×Fl)):List (Int×ByteArray):=S.map (fun p=>((p.1:Int),p.2.data))
def cvA (b:ByteArray):Value:= .string b
abbrev tAt:TypeId:=268
theorem und_at:Tryz.prog.underlying tAt=some (.map 3 9):=Tryz.underlying268
theorem zero_str (w:World):(zeroValue 9).run Tryz.prog w= .ok (.string ⟨#[]⟩) w:=by kernel_rfl
theorem dataZ_ne {A:List (Nat×Fl)} {n:Nat} (h:∀ p∈A,p.1<n):∀ p∈cX A,p.1≠(n:Int):=by
 intro p hp e
 obtain⟨x,hx,rfl⟩:=List.mem_map.1 hp
 have:=h x hx
 simp at e
 omega
theorem cL.at_lt (h:cL S) {i:Nat} (hi:i<S.length):∀ p∈S.take i,p.1<S[i].1:=by
 have h1:S=S.take i++S[i]::S.drop (i+1):=by simp
 intro p hp
 obtain⟨⟨n,f⟩,hx⟩:∃ x,S[i]=x:=⟨_,rfl⟩
 rw[hx]at h1 ⊢
 rw[h1]at h
 exact h.mid.1 p hp
theorem cL.dataZ_get (h:cL S) {i:Nat} (hi:i<S.length):aH (cX S) (S[i].1:Int)=some S[i].2.data:=by
 have h1:S=S.take i++S[i]::S.drop (i+1):=by simp
 obtain⟨⟨n,f⟩,hx⟩:∃ x,S[i]=x:=⟨_,rfl⟩
 have hlt:=h.at_lt hi
 rw[hx]at h1 hlt ⊢
 rw[h1]
 have h2:cX (S.take i++(n,f)::S.drop (i+1))=cX (S.take i)++(((n:Int),f.data)::cX (S.drop (i+1))):=by
  unfold cX
  rw[List.map_append,List.map_cons]
 rw[h2]
 show aH (cX (S.take i)++(((n:Int),f.data)::cX (S.drop (i+1)))) (n:Int)=some f.data
 rw[cQ (dataZ_ne hlt)]
 exact gR _ _ _
theorem dataZ_keys:(cX S).map (·.1)=S.map (fun p=>(p.1:Int)):=by unfold cX;rw[List.map_map];rfl
theorem cL.keysZ (h:cL S):sortZ ((cX S).map (·.1))=S.map (fun p=>(p.1:Int)):=by
 rw[dataZ_keys]
 refine sortZ_rise ?_
 have:=h.lt
 rw[List.pairwise_map]at this ⊢
 exact this.imp (fun hab=>by omega)
theorem dataZ_succ {i:Nat} (hi:i<S.length):cX (S.take (i+1))=cX (S.take i)++[((S[i].1:Int),S[i].2.data)]:=by
 unfold cX
 rw[List.take_succ_eq_append_getElem hi,List.map_append]
 rfl
theorem mOf_succ {i:Nat} (hi:i<S.length):fR (S.take (i+1))=fR (S.take i)++[((S[i].1:Int),aM S[i].2.data)]:=by
 unfold fR
 rw[List.take_succ_eq_append_getElem hi,List.map_append]
 rfl
theorem recsOf_len (b:ByteArray) (hb:b.size≤1048576):(aM b).length≤1000000:=by
 obtain⟨t,h1,h2,_⟩:=jQ b.data.toList
 have h3:=frames_ge (scan b.data.toList).1
 have h4:=congrArg List.length h1
 rw[List.length_append,←bC]at h4
 unfold aM
 rw[List.length_map]
 omega
theorem SegD.size (h:SegD D dir S) (ok:D.Ok):∀ p∈S,p.2.data.size≤1048576:=fun p hp=>(ok.syn _ (cG (h.get p hp))).2
end
section
open Go.RowKit Go.Maps Go.Sort Go.Shelf
variable {G F H:Nat→Prop} {w w':World} {lb mp db mb bx nm:Nat} {ms:List (Int×Sg)} {L L' L0:Lg} {D:Dk} {s r:ByteArray} {S:List (Nat×Fl)} {dir:ByteArray}
def LdS (L0:Lg) (S:List (Nat×Fl)) (i:Nat) (L:Lg):Prop:=
 (L={L0 with m:=fR (S.take i)}∧∀ p∈S.take i,cE p.2.data)∨
 (i=S.length∧∃ A n f,S=A++[(n,f)]∧(∀ p∈A,cE p.2.data)∧¬ cE f.data∧L={L0 with m:=fR S,torn:=true,left:=gP f.data})
def Spoilt (S:List (Nat×Fl)):Prop:=∃ A n f B,S=A++(n,f)::B∧B≠[]∧(∀ p∈A,cE p.2.data)∧¬ cE f.data
def LoadE (L0:Lg) (S:List (Nat×Fl)) (z lb mp db:Nat) (e:Ending) (w':World):Prop:=
 (∃ ms L,e= .returned (.int .i64 0)∧LdS L0 S S.length L∧eQ (span lb mp z w') w' lb mp db ms L)∨(e= .returned (.int .i64 31)∧Spoilt S)
theorem LdS.start (h:L0.m=[]):LdS L0 S 0 L0:=by
 refine .inl ⟨?_,fun p hp=>by simp at hp⟩
 show L0={L0 with m:=[]}
 rw[← h]
theorem LdS.at_ {i:Nat} (h:LdS L0 S i L) (hi:i<S.length):L={L0 with m:=fR (S.take i)}∧∀ p∈S.take i,cE p.2.data:=by
 rcases h with h|h
 · exact h
 · omega
theorem take_at {i:Nat} (hi:i<S.length):S=S.take i++S[i]::S.drop (i+1):=by simp
theorem LdS.good {i:Nat} (hg:∀ p∈S.take i,cE p.2.data) (hi:i<S.length) (hn:cE S[i].2.data) (hL:L={L0 with m:=fR (S.take i)}):LdS L0 S (i+1) {L with m:=L.m++[((S[i].1:Int),aM S[i].2.data)]}:=by
 refine .inl ⟨?_,fun p hp=>?_⟩
 · rw[mOf_succ hi,hL]
 · rw[List.take_succ_eq_append_getElem hi]at hp
   rcases List.mem_append.1 hp with hp|hp
   · exact hg p hp
   · rw[List.mem_singleton]at hp;subst hp;exact hn
theorem LdS.torn {i:Nat} (hg:∀ p∈S.take i,cE p.2.data) (hi:i<S.length) (hn:¬ cE S[i].2.data) (hl:i+1=S.length) (hL:L={L0 with m:=fR (S.take i)}):LdS L0 S (i+1) {L with m:=L.m++[((S[i].1:Int),aM S[i].2.data)],torn:=true,left:=gP S[i].2.data}:=by
 have h1:=take_at hi
 have h2:S.drop (i+1)=[]:=List.drop_of_length_le (by omega)
 rw[h2]at h1
 refine .inr ⟨hl,S.take i,S[i].1,S[i].2,h1,hg,hn,?_⟩
 have h3:fR S=fR (S.take i)++[((S[i].1:Int),aM S[i].2.data)]:=by
  rw[← mOf_succ hi,hl,List.take_length]
 rw[h3,hL]
theorem spoilt_at {i:Nat} (hg:∀ p∈S.take i,cE p.2.data) (hi:i<S.length) (hn:¬ cE S[i].2.data) (hl:i+1<S.length):Spoilt S:=by
 refine⟨S.take i,S[i].1,S[i].2,S.drop (i+1),take_at hi,fun e=>?_,hg,hn⟩
 have:=congrArg List.length e
 rw[List.length_drop,List.length_nil]at this
 omega
theorem goodN_le (b:ByteArray):dI b≤b.size:=by
 obtain⟨t,h1,h2,_⟩:=jQ b.data.toList
 have h3:=congrArg List.length h1
 rw[List.length_append,←bC]at h3
 unfold dI
 omega
theorem eQ.tear (h:eQ G w lb mp db ms L) (b:ByteArray) (hb:b.size≤1048576):eQ G ((w.setCell ⟨lb,6,none⟩ (.bool true)).setCell ⟨lb,7,none⟩ (.string b)) lb mp db ms {L with torn:=true,left:=b}:=
 h.upd ((Tn.setCell (F:=fun q=>q=lb) w ⟨lb,6,none⟩ _ rfl).trans (Tn.setCell (F:=fun q=>q=lb) _ ⟨lb,7,none⟩ _ rfl)) (aE (aE h.c0 (by omega)) (by omega)) (aE (aE h.c1 (by omega)) (by omega)) (aE (aE h.c2 (by omega)) (by omega)) (aE (aE h.c3 (by omega)) (by omega)) (aE (aE h.c4 (by omega)) (by omega)) (aE (aE h.c5 (by omega)) (by omega))
  (aE (World.cell?_setCell_same _ _ _ h.c6) (by omega)) (World.cell?_setCell_same _ _ _ (aE h.c7 (by omega))) (fun j=>by rw[World.frozen?_setCell,World.frozen?_setCell];exact h.fz j) rfl ⟨h.ok.dir,h.ok.key,h.ok.rise,h.ok.few,h.ok.recs,h.ok.op,h.ok.long,hb,h.ok.size⟩
theorem eQ.respan {z:Nat} {w0:World} (h:eQ (Go.Proofs.YtpfibkgmfapnjaaGreatDoor.span lb mp z w0) w lb mp db ms L) (hz:w0.heap.size≤w.heap.size):eQ (Go.Proofs.YtpfibkgmfapnjaaGreatDoor.span lb mp z w) w lb mp db ms L:=by
 refine h.wider (fun q hq=>?_) (fun q hq=>?_)
 · rcases hq with h2|h2|h2
   · exact .inl h2
   · exact .inr (.inl h2)
   · exact .inr (.inr ⟨h2.1,by omega⟩)
 · rcases hq with h2|h2|h2
   · subst h2;exact h.lt _ h.gl
   · subst h2;exact h.lt _ h.gm
   · exact h2.2
theorem last_under {kv:Int} (h:∀ p∈L.m,p.1<kv) (h0:0<kv):L.last<kv:=by
 unfold Lg.last
 rcases List.eq_nil_or_concat L.m with e|⟨A,x,e⟩
 · rw[e];exact h0
 · rw[e,List.concat_eq_append,List.map_append]
   simp
   exact h x (by rw[e];simp)
set_option maxRecDepth 100000 in
set_option maxHeartbeats 4000000 in
theorem load_any {z:Nat} (h:aF F w db mb D) (hon:D.on=true) (hs:SegD D dir S) (hL:eQ (span lb mp z w) w lb mp db [] L) (hdir:L.dir=dir) (hm:L.m=[]) (hz:z≤w.heap.size):
 Calls Tryz.prog 141 #[.pointer (some ⟨lb,0,none⟩)] w fun e w'=>LoadE L S z lb mp db e w'∧Tn (fun q=>q=lb∨q=mp) w w':=by
 obtain⟨W1,hW1⟩:∃ W1,w.alloc (.map #[] 0)=W1:=⟨_,rfl⟩
 have hmk:(Instr.makeMap tAt none).run Tryz.prog w= .ok (.map (some w.heap.size)) W1:=by rw[← hW1];rfl
 have b1:Below w.heap.size w W1:=by rw[← hW1];exact(Below.refl _ _).alloc (Nat.le_refl _) _
 have m1:aL ckZ cvA W1 w.heap.size []:=by rw[← hW1];exact aL.made w
 have hl1:=list_any (h.below (b1.drew)) hon (dir++tW)
 rw[hs.names]at hl1
 have c0:=(b1.cell (p:=⟨lb,0,none⟩) (World.block_lt_of_cell? _ _ hL.c0)).trans hL.c0
 have c1:=(b1.cell (p:=⟨lb,1,none⟩) (World.block_lt_of_cell? _ _ hL.c1)).trans hL.c1
 rw[hdir]at c1
 have hlb:=World.block_lt_of_cell? _ _ hL.c0
 obtain⟨n,hn⟩:∃ n,S.length=n:=⟨_,rfl⟩
 have hd40:=hs.d40
 have a1:¬ 9223372036854775807<dir.size+2:=by omega
 have H:=aB (aA h (aA hon (aA hs (aA hL (aA hdir (aA hm hz))))))
 have H1:=aB (aA hW1 (aA b1 m1))
 have HL:=aB hl1
 have HN:=aB (aA hn hlb)
 clear h hon hs hL hdir hm hz hW1 b1 m1 hl1 hn hlb
 go_enter Tryz.func141,Tryz.ntmps141
 go_wp2_with fail
 refine dQ (fun w'=>w'.cell? ⟨lb,0,none⟩=some (.pointer (some ⟨db,0,none⟩))∧w'.cell? ⟨lb,1,none⟩=some (.string dir)) 10 12 ⟨c0,c1⟩ (fun hH=>?_)
 refine wpAnyK_pure (i:=11) (v:=?v1) rfl (by kernel_rfl) (by kernel_rfl) (by kernel_rfl) (by decide) (fun _ _ _ h=>h) (Or.inl ⟨by rfl,?hy1⟩) hH ?rest1
 case hy1=>(intro w _;go_simp;with_reducible rfl)
 try simp only[Act.put,tkA,tkB,tkC]
 refine bU [[0,1,2,3,9],[1,2,3,9],[2,3,9],[3,9],[4,5,6,7,8,9],[5,6,7,8,9],[6,7,8,9],[7,8,9],[8,9]] hH ?_
 refine bM (i:=9) rfl (fun K hK=>?_)
 go_simp
 go_at_call 23
 refine HL.out.mono ?_
 rintro e w2 ⟨⟨v,rfl,hown⟩,hb2⟩
 obtain⟨a,cap,rfl,_,_⟩:=aI hown
 have hlen:(S.map (fun p=>aV dir p.1)).length=n:=by rw[List.length_map];exact HN.out.1
 have hb12:Below W1.heap.size W1 w2:=(Below.refl _ _).drew.trans hb2
 have kd2:=aA ((hb12.cell (p:=⟨lb,0,none⟩) (World.block_lt_of_cell? _ _ c0)).trans c0) ((hb12.cell (p:=⟨lb,1,none⟩) (World.block_lt_of_cell? _ _ c1)).trans c1)
 rw[hlen]at hown ⊢
 have hown2:bE eStr w2 W1.heap.size (.slice a n cap) (S.map (fun p=>aV dir p.1)):=hown
 have H2:=aB (aA hown2 hb12)
 clear hown hown2 hb2 hb12 hlen hmk
 refine bH hK kd2 ?_
 clear hK K
 intro hH
 refine eU ?_
 clear hH c0 c1
 have hz1:W1.heap.size=w.heap.size+1:=by rw[← H1.out.1];simp
 have hb02:Below w.heap.size w w2:=H1.out.2.1.trans (H2.out.2.mono H1.out.2.1.size)
 have hm2:aL ckZ cvA w2 w.heap.size (cX (S.take 0)):=aL.below H1.out.2.2 H2.out.2
 have HZ:=aB (aA hz1 (aA hb02 hm2))
 clear hz1 hb02 hm2
 go_wp2
 go_loopw [5,6,7,8,26] (fun _ _ _ _ y wr=>∃ i:Nat,i≤n∧y= .int .i64 (i:Int)∧aL ckZ cvA wr w.heap.size (cX (S.take i))∧Tn (fun q=>q=w.heap.size) w2 wr) (fun _ _ _ _ y _=>n - (intOf y).toNat)
 case atStart=>exact⟨0,by omega,rfl,HZ.out.2.2,Tn.refl _ _⟩
 case round=>
  obtain⟨i,hi,rfl,hmi,hti⟩:=hrel
  have hb0r:Below w.heap.size w wr:=HZ.out.2.1.trans (hti.below HZ.out.2.1.size (fun q hq=>by omega))
  have hLr:=H.out.2.2.2.1.tn (Tn.ofBelow (F:=fun _=>False) hb0r) (fun _ _ e=>e)
  have hdr:=H.out.1.below hb0r
  have c0:=hLr.c0
  have c1:=hLr.c1
  rw[H.out.2.2.2.2.1]at c1
  have HB:=aB (aA hmi (aA hti (aA hb0r (aA hLr hdr))))
  clear hmi hti hb0r hLr hdr
  by_cases hlt:i<n
  · have hi1:i<S.length:=by rw[HN.out.1];exact hlt
    have hik:i<(S.map (fun p=>aV dir p.1)).length:=by rw[List.length_map];exact hi1
    obtain⟨g,rfl,hgb,hgl,d0⟩:=H2.out.1.getT hik
    rw[List.getElem_map]at d0
    have hmem:S[i]∈S:=List.getElem_mem hi1
    have hrd:=H.out.2.2.1.read H.out.2.1 _ hmem
    have hrg:=H.out.2.2.1.rise.rng _ hmem
    have hsz:=H.out.2.2.1.size H.out.1.ok _ hmem
    have hsc:=dataZ_succ hi1
    obtain⟨⟨nk,f⟩,hx⟩:∃ x,S[i]=x:=⟨_,rfl⟩
    rw[hx]at d0 hrd hrg hsz hsc
    simp only at d0 hrd hrg hsz hsc
    have hnm:=(w_number (lb:=lb) hd40 nk hrg.2 c1).mono (fun e w' h=>aA h.1 h.2.symm)
    have hsl:=jP (L:=⟨dir,0,[],0,0,false,ByteArray.empty⟩) hd40 (nk:Int)
    have hsl2:(aV dir nk).size≤140737488351232:=hsl
    have hre:=read_any HB.out.2.2.2.2 H.out.2.1 (aV dir nk) hsl2
    rw[hrd]at hre
    obtain⟨kv,hkv⟩:∃ kv:Int,(nk:Int)=kv:=⟨_,rfl⟩
    obtain⟨sg,hsg⟩:∃ sg,aV dir nk=sg:=⟨_,rfl⟩
    obtain⟨b,hb⟩:∃ b,f.data=b:=⟨_,rfl⟩
    rw[hkv,hsg]at hnm
    rw[hsg,hb]at hre
    rw[hsg]at d0
    rw[hkv,hb]at hsc
    have hk0:0<kv:=by omega
    have d1:wr.cell? ⟨g,i,none⟩=some (.string sg):=HB.out.2.1.cell d0 (by show ¬ g=w.heap.size;have:=HZ.out.1;omega)
    have r1:(i:Int)<(n:Int):=by omega
    have HR:=aB (aA hre hsc)
    have hne:∀ p∈cX (S.take i),p.1≠kv:=by
     rw[← hkv]
     refine dataZ_ne ?_
     have h9:=H.out.2.2.1.rise.at_lt hi1
     rw[hx]at h9
     exact h9
    have HNE:=aB hne
    clear hre hsc hsl hsl2 hkv hsg hb hrd hrg hsz hx hmem hne d0
    go_wp2_with (go_at_call 227;go_loud (refine hnm.mono ?_);rintro e w3 ⟨rfl,rfl⟩)
    refine HR.out.1.mono ?_
    rintro e w4 ⟨rfl,hb4⟩
    obtain⟨w5,hrun,hm5,ht5,hz5⟩:=aL.put (aL.below HB.out.1 hb4) keyZ und_at kv b
    have hrun':(Instr.mapUpdate tAt (.map (some w.heap.size)) (.int .i64 kv) (.string b)).run Tryz.prog w4= .ok () w5:=hrun
    rw[iY HNE.out]at hm5
    have H5:=aB (aA hm5 (aA ht5 hb4))
    clear hm5 ht5 hz5 hrun hb4 hnm
    go_wp2
    go_roundw
    case rel=>exact⟨i+1,by omega,by go_num,by rw[HR.out.2];exact H5.out.1,HB.out.2.1.trans ((Tn.ofBelow H5.out.2.2).trans H5.out.2.1)⟩
    case measure=>simp[intOf];omega
  · obtain rfl:i=n:=by omega
    rw[← HN.out.1,List.take_length]at HB
    have HM:Hid (aL ckZ cvA wr w.heap.size (cX S)∧Below w.heap.size w wr∧eQ (span lb mp z w) wr lb mp db [] L):=by
     refine aA ?_ (aA HB.out.2.2.1 HB.out.2.2.2.1)
     have h9:=HB.out.1
     exact h9
    have hks:=zsorted_at (w:=wr.alloc (.cells #[.map (some w.heap.size)] 268)) (Bm:=wr.heap.size) (ob:=some w.heap.size) (cv:=cvA) (m:=cX S) (aL.below HM.out.1 ((Below.refl _ _).alloc (Nat.le_refl _) _)) (fun p hp=>by
     obtain⟨x,hx,rfl⟩:=List.mem_map.1 hp
     have:=H.out.2.2.1.rise.rng x hx
     simp only
     omega) (by unfold cX;rw[List.length_map];exact Nat.le_of_lt H.out.2.2.1.few) (by simp[go_sem])
    rw[H.out.2.2.1.rise.keysZ]at hks
    have hln:(cX S).length=i:=by unfold cX;rw[List.length_map];exact HN.out.1
    rw[hln]at hks
    have HK:=aB hks
    clear hks hln HB c0 c1
    go_wp2_with (go_at_call 229;go_loud (refine(zkeys_at _ _).mono ?_);rintro e w' ⟨rfl,rfl⟩)
    refine HK.out.mono ?_
    rintro e w6 ⟨v,rfl,hrow,hb6⟩
    obtain⟨na,nc,rfl,_,_⟩:=aI hrow
    have hlm:(S.map (fun p=>(p.1:Int))).length=i:=by rw[List.length_map];exact HN.out.1
    have hz0:(wr.alloc (.cells #[.map (some w.heap.size)] 268)).heap.size=wr.heap.size+1:=by simp
    have hbr6:Below wr.heap.size wr w6:=((Below.refl _ _).alloc (Nat.le_refl _) _).trans (hb6.mono (by simp))
    have hrow2:OwnZ w6 wr.heap.size (.slice na i nc) (S.map (fun p=>(p.1:Int))):=by
     unfold OwnZ
     rw[hlm]
     exact aK hrow (by omega)
    have hb06:Below w.heap.size w w6:=HM.out.2.1.trans (hbr6.mono HM.out.2.1.size)
    have hM6:aL ckZ cvA w6 w.heap.size (cX S):=aL.below HM.out.1 hbr6
    have hL6:eQ (span lb mp z w6) w6 lb mp db [] L:=H.out.2.2.2.1.span hb06
    have H6:=aB (aA hrow2 (aA hM6 (aA hL6 (aA hb06 HM.out.2.1.size))))
    clear hrow hrow2 hz0 hbr6 hb06 hM6 hL6 hb6 HK HM
    go_wp2
    go_loopw [10,11,12,13,56] (fun _ _ _ _ y wq=>∃ j:Nat,j≤i∧y= .int .i64 (j:Int)∧∃ ms' L',LdS L S j L'∧eQ (span lb mp z wq) wq lb mp db ms' L'∧Tn (fun q=>q=lb∨q=mp) w6 wq) (fun _ _ _ _ y _=>i - (intOf y).toNat)
    case atStart=>exact⟨0,by omega,rfl,[],L,LdS.start H.out.2.2.2.2.2.1,H6.out.2.2.1,Tn.refl _ _⟩
    case round=>
     obtain⟨j,hj,rfl,ms',L',hld,hLq,htq⟩:=hrel
     have HB:=aB (aA hld (aA hLq htq))
     clear hld hLq htq
     by_cases hlt:j<i
     · have hj1:j<S.length:=by rw[HN.out.1];exact hlt
       have hjk:j<(S.map (fun p=>(p.1:Int))).length:=by rw[List.length_map];exact hj1
       obtain⟨hLe,hgd⟩:=HB.out.1.at_ hj1
       obtain⟨g,rfl,hgb,d0⟩:=H6.out.1.at_ hjk
       rw[List.getElem_map]at d0
       have hmem:S[j]∈S:=List.getElem_mem hj1
       have hrg:=H.out.2.2.1.rise.rng _ hmem
       have hsz:=H.out.2.2.1.size H.out.1.ok _ hmem
       have hgt:=H.out.2.2.1.rise.dataZ_get hj1
       have hms:=mOf_succ hj1
       have hlast:=H.out.2.2.1.rise.at_lt hj1
       have hld1:=LdS.good (L:=L') (L0:=L) hgd hj1
       have hld2:=LdS.torn (L:=L') (L0:=L) hgd hj1
       have hld3:=spoilt_at hgd hj1
       obtain⟨⟨nk,f⟩,hx⟩:∃ x,S[j]=x:=⟨_,rfl⟩
       rw[hx]at d0 hrg hsz hgt hms hlast hld1 hld2 hld3
       simp only at d0 hrg hsz hgt hms hlast hld1 hld2 hld3
       obtain⟨kv,hkv⟩:∃ kv:Int,(nk:Int)=kv:=⟨_,rfl⟩
       obtain⟨b,hb⟩:∃ b,f.data=b:=⟨_,rfl⟩
       rw[hkv]at d0 hgt hms hld1 hld2
       rw[hb]at hsz hgt hms hld1 hld2 hld3
       have hmq:aL ckZ cvA wr w.heap.size (cX S):=by
        refine H6.out.2.1.tn HB.out.2.2 ?_
        have h1:=HB.out.2.1.mpl.lt
        have h2:=H.out.2.2.2.1.mpl.lt
        have h3:=HN.out.2
        rintro(e|e)<;>omega
       have hlk:(Instr.lookup tAt (.map (some w.heap.size)) (.int .i64 kv) false).run Tryz.prog wr= .ok (.string b) wr:=by
        have h5:=aL.look hmq keyZ und_at (zero_str _) false kv
        rw[hgt]at h5
        exact h5
       have d1:wr.cell? ⟨g,j,none⟩=some (.int .i64 kv):=by
        refine HB.out.2.2.cell d0 ?_
        have h2:=H.out.2.2.2.1.mpl.lt
        have h3:=HN.out.2
        have h4:=H6.out.2.2.2.2
        show ¬ (g=lb∨g=mp)
        rintro(e|e)<;>omega
       have r1:(j:Int)<(i:Int):=by omega
       have hgood:=w_good b hsz wr
       have HGT:=aB hgt
       have HG:=aB (aA hgood (aA hmq (aA hms (aA hlast (aA hrg hkv)))))
       have HLD:=aB (aA hld1 (aA hld2 (aA hld3 (aA hLe (aA hgd hsz)))))
       clear hld1 hld2 hld3 hLe hgd hgood hmq hms hlast hrg hkv hgt hsz hx hmem d0 hb
       go_wp2_with fail
       refine HG.out.1.mono ?_
       rintro e w7 ⟨⟨ga,gc,rfl,gown⟩,hb7⟩
       obtain⟨gn,hgn⟩:∃ gn,dI b=gn:=⟨_,rfl⟩
       obtain⟨k,hk⟩:∃ k,(aM b).length=k:=⟨_,rfl⟩
       obtain⟨gd,hgd⟩:∃ gd,decide (dI b=b.size)=gd:=⟨_,rfl⟩
       have hgle:=goodN_le b
       have hrl:=recsOf_len b HLD.out.2.2.2.2.2
       rw[hgn]at hgle hgd ⊢
       rw[hk]at gown hrl ⊢
       rw[hgd]
       have HGD:=aB (aA hgn (aA hk (aA hgd (aA hgle hrl))))
       clear hgn hgd hrl
       obtain⟨W8,hW8⟩:∃ W8,w7.alloc (.cells #[.slice ga k gc,.int .i64 (gn:Int)] 274)=W8:=⟨_,rfl⟩
       have b8:Below wr.heap.size wr W8:=by rw[← hW8];exact hb7.alloc hb7.size _
       have b78:Below w7.heap.size w7 W8:=by rw[← hW8];exact(Below.refl _ _).alloc (Nat.le_refl _) _
       have k0:W8.cell? ⟨w7.heap.size,0,none⟩=some (.slice ga k gc):=by rw[← hW8];simp[go_sem]
       have k1:W8.cell? ⟨w7.heap.size,1,none⟩=some (.int .i64 (gn:Int)):=by rw[← hW8];simp[go_sem]
       have hz7:=hb7.size
       have hL8:=HB.out.2.1.span b8
       have c3:=hL8.c3
       have g8:bE eStr W8 wr.heap.size (.slice ga k gc) (aM b):=aD gown b78
       have H8:=aB (aA b8 (aA hL8 g8))
       clear b8 b78 hL8 g8 gown hb7
       go_wp2_with fail
       clear hW8
       refine dQ (fun w'=>w'.cell? ⟨lb,3,none⟩=some (.map (some mp))∧w'.cell? ⟨w7.heap.size,0,none⟩=some (.slice ga k gc)) 7 8 ⟨c3,k0⟩ (fun hH=>?_)
       refine bU [[0,1,2,3],[1,2,3],[2,3],[3],[4],[5,6],[6]] hH ?_
       refine tkL rfl (fun K hK=>?_)
       subst hk
       refine dS rfl _ _ _ rfl keyZ und_seg rfl (aL.below H8.out.2.1.mpl (Below.refl _ _).drew) kv rfl ⟨ga,gc,aM b⟩ rfl ?_
       intro w9 hm9 ht9 hz9
       refine hK.out _ _ (tkD ?_)
       clear hK K hH
       have hlbW:lb<wr.heap.size:=World.block_lt_of_cell? _ _ HB.out.2.1.c0
       have hmpW:mp<wr.heap.size:=HB.out.2.1.mpl.lt
       have hzW:z≤wr.heap.size:=by
        have h1:=H6.out.2.2.2.2
        have h2:=H6.out.2.2.2.1.size
        have h3:=HB.out.2.2.size
        have h4:=H.out.2.2.2.2.2.2
        omega
       have hL9:eQ (span lb mp z w9) w9 lb mp db (ms'++[(kv,⟨ga,gc,aM b⟩)]) {L' with m:=L'.m++[(kv,aM b)]}:=by
        have h8:eQ (span lb mp z W8) W8.drew lb mp db ms' L':=H8.out.2.1.tn (Tn.ofBelow (F:=fun _=>False) (Below.refl _ _).drew) (fun _ _ e=>e)
        refine(h8.addrow (w':=w9) (k:=kv) (a:=ga) (c:=gc) (rs:=aM b) ?_ ?_ ?_ HGD.out.2.2.2.2 (aK (aD H8.out.2.2 (Below.refl _ _).drew) (Nat.zero_le _)) ?_ hm9 ht9).respan (by rw[hz9];exact Nat.le_refl _)
        · refine last_under ?_ (by have h5:=HG.out.2.2.2.2.2;have h6:=HG.out.2.2.2.2.1;omega)
          rw[HLD.out.2.2.2.1]
          intro p hp
          obtain⟨x,hx,rfl⟩:=List.mem_map.1 hp
          have:=HG.out.2.2.2.1 x hx
          have h5:=HG.out.2.2.2.2.2
          simp only
          omega
        · have h5:=HG.out.2.2.2.2.2
          have h6:=HG.out.2.2.2.2.1
          omega
        · rw[HLD.out.2.2.2.1]
          show(fR (S.take j)).length<20000
          unfold fR
          rw[List.length_map,List.length_take]
          have:=H.out.2.2.1.few
          omega
        · intro q hq
          have h5:=H8.out.2.2.lt q hq
          refine⟨.inr (.inr ⟨by omega,h5.2⟩),by omega,by omega,fun p hp e=>?_⟩
          have h6:=HB.out.2.1.lt q (HB.out.2.1.gr p hp q e)
          omega
       have ht6:Tn (fun q=>q=lb∨q=mp) w6 w9:=HB.out.2.2.trans (((Tn.ofBelow H8.out.1).trans (Tn.ofBelow (Below.refl _ _).drew)).trans (ht9.mono (fun q e=> .inr e)))
       have k19:=ht9.cell k1 (by show ¬ w7.heap.size=mp;omega)
       have hlk9:(Instr.lookup tAt (.map (some w.heap.size)) (.int .i64 kv) false).run Tryz.prog w9= .ok (.string b) w9:=by
        have hm8:aL ckZ cvA w9 w.heap.size (cX S):=((HG.out.2.1.below H8.out.1).below (Below.refl _ _).drew).tn ht9 (by
         have h2:=H.out.2.2.2.1.mpl.lt
         show ¬ w.heap.size=mp
         omega)
        have h5:=aL.look hm8 keyZ und_at (zero_str _) false kv
        rw[HGT.out]at h5
        exact h5
       have H9:=aB (aA hL9 ht6)
       clear hL9 ht6 hm9 ht9 hz9 hlk k0 k1 c3
       cases gd with
       |true=>
        have hgo:cE b:=by
         refine good_iff.2 ?_
         have h5:=HGD.out.2.2.1
         rw[HGD.out.1]
         exact of_decide_eq_true h5
        have HGO:=aB hgo
        clear hgo
        go_wp2
        go_roundw
        case rel=>exact⟨j+1,by omega,by go_num,_,_,HLD.out.1 HGO.out HLD.out.2.2.2.1,H9.out.1,H9.out.2⟩
        case measure=>simp[intOf];omega
       |false=>
        have hng:¬ cE b:=by
         intro hg
         have h5:=HGD.out.2.2.1
         have h6:=hg.whole
         rw[HGD.out.1]at h6
         exact absurd h6 (of_decide_eq_false h5)
        have HNG:=aB hng
        clear hng
        have hT6:Tn (fun q=>q=lb∨q=mp) w w9:=(Tn.ofBelow H6.out.2.2.2.1).trans H9.out.2
        have HT:=aB hT6
        clear hT6
        by_cases hl:j+1<i
        · have r2:(j:Int)<(i:Int) - 1:=by omega
          go_wp2
          go_ret
          exact⟨.inr ⟨rfl,HLD.out.2.2.1 HNG.out (by rw[HN.out.1];exact hl)⟩,HT.out⟩
        · have r2:¬ (j:Int)<(i:Int) - 1:=by omega
          have r3:¬ (b.size:Int)<(gn:Int):=by omega
          have hex:(b.extract 0 gn).size≤140737488351232:=by rw[ByteArray.size_extract];have:=HLD.out.2.2.2.2.2;omega
          have hgb:gP b=b.extract 0 gn:=by unfold gP;rw[HGD.out.1]
          obtain⟨x,hx⟩:∃ x,b.extract 0 gn=x:=⟨_,rfl⟩
          have hg2:=hgb.trans hx
          have HX:=aB hg2
          rw[hx]at hex
          clear hgb hg2
          go_wp2_with fail
          with_reducible refine(cB _ x hex).mono ?_
          rintro e w10 ⟨rfl,hb10⟩
          have hL10:=H9.out.1.span hb10
          have c6:=hL10.c6
          have c7:=hL10.c7
          have f6:=hL10.fz 6
          have f7:=hL10.fz 7
          have hb':=HLD.out.2.2.2.2.2
          have hL11:=hL10.tear (gP b) (Nat.le_trans (goodB_spec b).2.2 hb')
          rw[HX.out]at hL11
          have H10:=aB (aA hb10 hL11)
          clear hb10 hL10 hL11 hb'
          go_wp2
          go_roundw
          case rel=>
           have hto:=HLD.out.2.1 HNG.out (by rw[HN.out.1];omega) HLD.out.2.2.2.1
           rw[HX.out]at hto
           refine⟨j+1,by omega,by go_num,_,_,hto,H10.out.2.respan (by simp[go_sem]),H9.out.2.trans ((Tn.ofBelow H10.out.1).trans ((Tn.setCell (F:=fun q=>q=lb∨q=mp) _ ⟨lb,6,none⟩ _ (.inl rfl)).trans (Tn.setCell (F:=fun q=>q=lb∨q=mp) _ ⟨lb,7,none⟩ _ (.inl rfl))))⟩
          case measure=>simp[intOf];omega
     · obtain rfl:j=i:=by omega
       go_wp2
       go_ret
       refine⟨.inl ⟨_,_,rfl,?_,HB.out.2.1⟩,(Tn.ofBelow H6.out.2.2.2.1).trans HB.out.2.2⟩
       rw[HN.out.1]
       exact HB.out.1
end
end Go.Proofs.YtpfibkgmfapnjaaGreatDoor
