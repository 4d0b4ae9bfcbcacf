/- A frame's word: w' is w but for the blocks of F (and new ones). Plain, of no program. -/
import Derived.Test.YtpfibkgmfapnjaaGreatDoorRows
import Derived.WalkKit
import Derived.WalkSpells
import Derived.WalkLawsBesides
import Derived.Laws.IdiomStrings
import Derived.Laws.BytesArg
import Derived.Lib.Hide
import Derived.Deep.QuietTactic
import Derived.BigQuiet
import Derived.Deep.RegionLaw
import Derived.Maps.OwnSet
import Derived.Maps.AppendAt
import Derived.WideKeyPair
import Derived.Maps.RangeWalk
import Derived.Lib.Bytealg
set_option linter.unusedSimpArgs false
set_option linter.unusedVariables false
namespace Go.Proofs.YtpfibkgmfapnjaaGreatDoor
section
open Go.RowKit
structure Tn (F:Nat→Prop) (w w':World):Prop where
 os:w'.os=w.os
 tape:w'.tape=w.tape
 output:w'.output=w.output
 size:w.heap.size≤w'.heap.size
 block:∀ k,k<w.heap.size→¬ F k→w'.heap[k]?=w.heap[k]?
theorem Tn.refl (F:Nat→Prop) (w:World):Tn F w w:=⟨rfl,rfl,rfl,Nat.le_refl _,fun _ _ _=>rfl⟩
theorem Tn.trans {F:Nat→Prop} {a b c:World} (h:Tn F a b) (k:Tn F b c):Tn F a c:=
 ⟨k.os.trans h.os,k.tape.trans h.tape,k.output.trans h.output,Nat.le_trans h.size k.size,fun i hi hf=>(k.block i (Nat.lt_of_lt_of_le hi h.size) hf).trans (h.block i hi hf)⟩
theorem Tn.andThen {F G:Nat→Prop} {a b c:World} (h:Tn F a b) (k:Tn G b c) (hG:∀ i,G i→F i∨a.heap.size≤i):Tn F a c:=
 ⟨k.os.trans h.os,k.tape.trans h.tape,k.output.trans h.output,Nat.le_trans h.size k.size,fun i hi hf=>
  (k.block i (Nat.lt_of_lt_of_le hi h.size) (fun hg=>(hG i hg).elim hf (fun h2=>by omega))).trans (h.block i hi hf)⟩
theorem Tn.mono {F G:Nat→Prop} {a b:World} (h:Tn F a b) (hF:∀ i,F i→G i):Tn G a b:=
 ⟨h.os,h.tape,h.output,h.size,fun i hi hg=>h.block i hi (fun hf=>hg (hF i hf))⟩
theorem Tn.ofBelow {F:Nat→Prop} {a b:World} (h:Below a.heap.size a b):Tn F a b:=⟨h.os,h.tape,h.output,h.size,fun i hi _=>h.block i hi⟩
theorem Tn.ofGrown {F:Nat→Prop} {a b:World} {row:Option Nat} (h:a.grownBy b row) (hr:∀ k,row=some k→F k):Tn F a b:=
 ⟨h.os,h.tape,h.output,h.size,fun i hi hf=>h.block i hi (fun e=>hf (hr i e.symm))⟩
theorem Tn.setCell {F:Nat→Prop} (w:World) (p:Addr) (u:Value) (hp:F p.block):Tn F w (w.setCell p u):=
 ⟨rfl,rfl,rfl,by simp[World.setCell],fun i _ hf=>Below.heap_setCell w p u i (fun e=>hf (e▸hp))⟩
theorem Tn.drew {F:Nat→Prop} (w:World):Tn F w w.drew:= .ofBelow (Below.refl _ _).drew
theorem Tn.below {F:Nat→Prop} {B:Nat} {a b:World} (h:Tn F a b) (hB:B≤a.heap.size) (hF:∀ k,F k→B≤k):Below B a b:=
 ⟨h.os,h.tape,h.output,h.size,fun k hk=>h.block k (by omega) (fun hf=>by have:=hF k hf;omega)⟩
theorem Tn.cell {F:Nat→Prop} {a b:World} (h:Tn F a b) {p:Addr} {v:Value} (hc:a.cell? p=some v) (hp:¬ F p.block):b.cell? p=some v:=
 (World.cell?_of_block (h.block p.block (World.block_lt_of_cell? a p hc) hp)).trans hc
theorem Tn.frozen {F:Nat→Prop} {a b:World} (h:Tn F a b) {p:Addr} (hlt:p.block<a.heap.size) (hp:¬ F p.block):b.frozen? p=a.frozen? p:=
 World.frozen?_of_block (h.block p.block hlt hp)
theorem Tn.row {F:Nat→Prop} {a b:World} {base:Nat} {e:TypeId} {size:Nat} {v:Value} {n:Nat} {xs:List Value} (h:Tn F a b) (ho:a.ownsRow base e size v n xs) (hv:∀ k,v.ownBlock=some k→¬ F k):
 b.ownsRow base e size v n xs:=by
 obtain⟨h1,h2⟩:=ho
 refine⟨h1,?_⟩
 rcases h2 with h2|⟨g,cap,cur,rfl,hg,hh,r⟩
 · exact Or.inl h2
 · refine Or.inr ⟨g,cap,cur,rfl,hg,?_,r⟩
   rw[h.block g ((Array.getElem?_eq_some_iff.1 hh).1) (hv g rfl)]
   exact hh
end
section
open Go.RowKit Go.ChangeMaps Go.MapKept
section
variable {P:Program} {t k e:TypeId} {K V:Type} [DecidableEq K] {ck:K→Value} {cv:V→Value}
structure hJ (P:Program) (k:TypeId) (ck:K→Value) (d:TypeDesc):Prop where
 und:P.underlying k=some d
 same:∀ a b,Instr.sameNow d (ck a) (ck b)=some (decide (a=b))
 kind:∀ a,IsKey d (ck a)
 bits:∀ a,Instr.sameBits 10000 (ck a) (ck a)=true
theorem hJ.inj {d:TypeDesc} (h:hJ P k ck d) {a b:K} (e:ck a=ck b):a=b:=by
 have h1:=h.same a b
 have h2:=h.same b b
 rw[e,h2]at h1
 by_cases hab:a=b
 · exact hab
 · simp[hab]at h1
theorem beq_dec (a b:ByteArray):(a == b)=decide (a=b):=by
 cases a with|mk a=>cases b with|mk b=>
 show(a == b)=_
 by_cases h:a=b
 · subst h;simp
 · have h2:¬ (ByteArray.mk a=ByteArray.mk b):=fun e=>h (by injection e)
   simp[h,h2]
theorem key_str (h:P.underlying k=some .string):hJ P k (fun s:ByteArray=> .string s) .string:=
 ⟨h,fun a b=>by simp only[Instr.sameNow];congr 1;exact beq_dec a b,fun _=>trivial,fun a=>by simp only[Instr.sameBits];rw[beq_dec];simp⟩
theorem key_int {q:IntKind} (h:P.underlying k=some (.int q)):hJ P k (fun s:Int=> .int q s) (.int q):=
 ⟨h,fun a b=>by simp only[Instr.sameNow,if_true];congr 1,fun _=>rfl,fun a=>by simp[Instr.sameBits]⟩
def iQ (ck:K→Value) (cv:V→Value) (es:List MapEntry) (m:List (K×V)):Prop:=es.map (fun x=>(x.key,x.val))=m.map (fun p=>(ck p.1,cv p.2))
def aH (m:List (K×V)) (a:K):Option V:=(m.find? (fun p=>decide (p.1=a))).map (·.2)
def aG (m:List (K×V)) (a:K) (v:V):List (K×V):=if m.any (fun p=>decide (p.1=a))then m.map (fun p=>if p.1=a then(a,v)else p)else m++[(a,v)]
def aW (m:List (K×V)) (a:K):List (K×V):=m.filter (fun p=>decide (p.1≠a))
theorem jW {d:TypeDesc} (h:hJ P k ck d) (a:K):∀ (es:List MapEntry) (m:List (K×V)) (i:Nat),iQ ck cv es m→
 (aH m a=none∧(∀ p∈m,p.1≠a)∧Instr.findNow d (ck a) es i=some none)∨
 ∃ j v e0,m[j]?=some (a,v)∧aH m a=some v∧es[j]?=some e0∧e0.key=ck a∧e0.val=cv v∧Instr.findNow d (ck a) es i=some (some (i+j,cv v))
 |[],m,i,he=>by
  have:m=[]:=by unfold iQ at he;simpa using he.symm
  subst this
  exact .inl ⟨rfl,by simp,rfl⟩
 |x::es,m,i,he=>by
  unfold iQ at he
  cases m with
  |nil=>simp at he
  |cons p m=>
   simp only[List.map_cons,List.cons.injEq,Prod.mk.injEq]at he
   obtain⟨⟨hk,hv⟩,hr⟩:=he
   by_cases hp:p.1=a
   · right
     refine⟨0,p.2,x,by simp[← hp],by simp[aH,hp],rfl,by rw[hk,hp],hv,?_⟩
     simp only[Instr.findNow,hk,h.same,hp,decide_true,hv,Nat.add_zero]
   · have hne:Instr.sameNow d (ck a) x.key=some false:=by rw[hk,h.same];simp[Ne.symm hp]
     rcases jW h a es m (i+1) hr with⟨h1,h2,h3⟩|⟨j,v,e0,h1,h2,h3,h4,h5,h6⟩
     · refine .inl ⟨by simpa[aH,hp]using h1,?_,by simp only[Instr.findNow,hne];exact h3⟩
       intro q hq
       rcases List.mem_cons.1 hq with rfl|hq
       · exact hp
       · exact h2 q hq
     · refine .inr ⟨j+1,v,e0,by simpa using h1,by simpa[aH,hp]using h2,by simpa using h3,h4,h5,?_⟩
       simp only[Instr.findNow,hne]
       rw[h6,show i+1+j=i+(j+1) by omega]
theorem fO {d:TypeDesc} (h:hJ P k ck d) {r:Option (Nat×Value)} (w:World) {a:K} {es:List MapEntry} (hf:Instr.findNow d (ck a) es 0=some r):(Instr.findKey k (ck a) es).run P w= .ok r w:=by
 simp[Instr.findKey,run_underlying h.und,hf,Result.andThen]
def aL (ck:K→Value) (cv:V→Value) (w:World) (b:Nat) (m:List (K×V)):Prop:=∃ es clock,w.heap[b]?=some (.map es clock)∧Stamped es clock∧iQ ck cv es.toList m
omit [DecidableEq K]in
theorem at_one {l:List K} (hn:l.Nodup) {i j:Nat} {a:K} (hi:l[i]?=some a) (hj:l[j]?=some a):i=j:=by
 obtain⟨h1,h2⟩:=List.getElem?_eq_some_iff.1 hi
 obtain⟨h3,h4⟩:=List.getElem?_eq_some_iff.1 hj
 rcases Nat.lt_trichotomy i j with h|h|h
 · exact absurd (h2.trans h4.symm) (List.pairwise_iff_getElem.1 hn i j h1 h3 h)
 · exact h
 · exact absurd (h4.trans h2.symm) (List.pairwise_iff_getElem.1 hn j i h3 h1 h)
variable {w w':World} {b:Nat} {m:List (K×V)} {d:TypeDesc}
omit [DecidableEq K]in
theorem aL.lt (h:aL ck cv w b m):b<w.heap.size:=by
 obtain⟨es,c,hb,_⟩:=h
 exact(Array.getElem?_eq_some_iff.1 hb).1
omit [DecidableEq K]in
theorem aL.tn {F:Nat→Prop} (h:aL ck cv w b m) (ht:Tn F w w') (hb:¬ F b):aL ck cv w' b m:=by
 have hlt:=h.lt
 obtain⟨es,c,h1,h2⟩:=h
 exact⟨es,c,(ht.block b hlt hb).trans h1,h2⟩
omit [DecidableEq K]in
theorem aL.below (h:aL ck cv w b m) (ht:Below w.heap.size w w'):aL ck cv w' b m:=h.tn (Tn.ofBelow (F:=fun _=>False) ht) (fun h=>h)
omit [DecidableEq K]in
theorem aL.made (w:World):aL ck cv (w.alloc (.map #[] 0)) w.heap.size ([]:List (K×V)):=⟨#[],0,heap_alloc_new w _,⟨by simp,by simp,by simp⟩,rfl⟩
theorem aL.nodup (h:aL ck cv w b m) (hk:hJ P k ck d):(m.map (·.1)).Nodup:=by
 obtain⟨es,c,_,hs,he⟩:=h
 have h1:=hs.2.2
 have h2:es.toList.map (·.key)=(m.map (·.1)).map ck:=by
  have:=congrArg (List.map Prod.fst) he
  simpa[List.map_map,Function.comp_def]using this
 rw[h2]at h1
 exact(List.pairwise_map.1 h1).imp (fun hne e=>hne (congrArg ck e))
theorem aL.look (h:aL ck cv w b m) (hk:hJ P k ck d) (ht:P.underlying t=some (.map k e)) {z:Value} (hz:(zeroValue e).run P w= .ok z w) (c:Bool) (a:K):
 (Instr.lookup t (.map (some b)) (ck a) c).run P w= .ok (match aH m a with|some v=>if c then .tuple #[cv v,.bool true]else cv v|none=>if c then .tuple #[z,.bool false]else z) w:=by
 obtain⟨es,cl,hb,hs,he⟩:=h
 have hch:=run_checkKey (P:=P) (w:=w) hk.und (hk.kind a) es.isEmpty 9999
 rcases jW hk a es.toList m 0 he with⟨h1,h2,h3⟩|⟨j,v,e0,h1,h2,h3,h4,h5,h6⟩
 · simp[Instr.lookup,run_underlying ht,MapKept.run_getObj_map hb,hch,fO hk w h3,hz,h1,Result.andThen]
 · simp[Instr.lookup,run_underlying ht,MapKept.run_getObj_map hb,hch,fO hk w h6,h2,Result.andThen]
omit [DecidableEq K]in
theorem aL.len (h:aL ck cv w b m) (ht:P.underlying t=some (.map k e)) (ty:TypeId):(Builtin.len_ #[t] ty #[.map (some b)]).run P w= .ok (.int .i64 m.length) w:=by
 obtain⟨es,cl,hb,hs,he⟩:=h
 have:es.size=m.length:=by
  have:=congrArg List.length he
  simpa[iQ]using this
 simp[Builtin.len_,run_underlying ht,MapKept.run_getObj_map hb,goInt,Result.andThen,this]
omit [DecidableEq K]in
theorem tn_set {es:Array MapEntry} {clock:Nat} (hb:w.heap[b]?=some (.map es clock)) (o:Obj):Tn (fun q=>q=b) w (setBlock w b o):=
 ⟨rfl,rfl,rfl,by simp[setBlock],fun i _ hi=>heap_setBlock_other hb o hi⟩
theorem iY {m:List (K×V)} {a:K} {v:V} (h:∀ p∈m,p.1≠a):aG m a v=m++[(a,v)]:=by
 have:m.any (fun p=>decide (p.1=a))=false:=by
  rw[Bool.eq_false_iff]
  intro h2
  obtain⟨p,hp,he⟩:=List.any_eq_true.1 h2
  exact h p hp (by simpa using he)
 unfold aG
 rw[this]
 rfl
theorem setL_old {m:List (K×V)} {a:K} {v u:V} {j:Nat} (hj:m[j]?=some (a,u)) (hn:(m.map (·.1)).Nodup):aG m a v=m.set j (a,v):=by
 have hany:m.any (fun p=>decide (p.1=a))=true:=List.any_eq_true.2 ⟨(a,u),List.mem_of_getElem? hj,by simp⟩
 unfold aG
 rw[hany,if_pos rfl]
 apply List.ext_getElem?
 intro i
 rw[List.getElem?_map,List.getElem?_set]
 have hjl:=(List.getElem?_eq_some_iff.1 hj).1
 by_cases hij:j=i
 · subst hij
   rw[if_pos rfl,if_pos hjl,hj]
   simp
 · rw[if_neg hij]
   cases hi:m[i]? with
   |none=>rfl
   |some p=>
    have hne:p.1≠a:=by
     intro e
     have h1:(m.map (·.1))[i]?=some a:=by rw[List.getElem?_map,hi];simp[e]
     have h2:(m.map (·.1))[j]?=some a:=by rw[List.getElem?_map,hj];simp
     exact hij (at_one hn h2 h1)
    simp[hne]
theorem aL.put (h:aL ck cv w b m) (hk:hJ P k ck d) (ht:P.underlying t=some (.map k e)) (a:K) (v:V):
 ∃ w',(Instr.mapUpdate t (.map (some b)) (ck a) (cv v)).run P w= .ok () w'∧aL ck cv w' b (aG m a v)∧Tn (fun q=>q=b) w w'∧w'.heap.size=w.heap.size:=by
 have hnd:=h.nodup hk
 obtain⟨es,cl,hb,hs,he⟩:=h
 have hch:=run_checkKey (P:=P) (w:=w) hk.und (hk.kind a) false 9999
 rcases jW hk a es.toList m 0 he with⟨h1,h2,h3⟩|⟨j,u,e0,h1,h2,h3,h4,h5,h6⟩
 · refine⟨setBlock w b (.map (es.push ⟨ck a,cv v,cl⟩) (cl+1)),?_,⟨_,_,heap_setBlock_same hb _,stamped_push hs ?_,?_⟩,tn_set hb _,by simp[setBlock]⟩
   · simp[Instr.mapUpdate,run_underlying ht,MapKept.run_getObj_map hb,hch,fO hk w h3,MapKept.run_setObj_map _ hb,Result.andThen,setBlock]
   · intro x hx hxk
     have hm:(x.key,x.val)∈es.toList.map (fun x=>(x.key,x.val)):=List.mem_map.2 ⟨x,hx,rfl⟩
     rw[he]at hm
     obtain⟨p,hp,hpe⟩:=List.mem_map.1 hm
     simp only[Prod.mk.injEq]at hpe
     exact h2 p hp (hk.inj (hpe.1.trans hxk))
   · rw[iY h2]
     unfold iQ at he ⊢
     rw[Array.toList_push,List.map_append,List.map_append,he]
     rfl
 · have hj:es[j]?=some e0:=by simpa using h3
   refine⟨setBlock w b (.map (es.modify j fun x=>{x with key:=ck a,val:=cv v}) cl),?_,⟨_,_,heap_setBlock_same hb _,stamped_modify hs _ _ (fun _ _=>rfl) (fun x _ hx=>?_),?_⟩,tn_set hb _,by simp[setBlock]⟩
   · have hst:(Instr.keyThatStays (ck a) (ck a)).run P w= .ok (ck a) w:=by simp[Instr.keyThatStays,hk.bits]
     simp[Instr.mapUpdate,run_underlying ht,MapKept.run_getObj_map hb,hch,fO hk w h6,hj,h4,hst,MapKept.run_setObj_map _ hb,Result.andThen,setBlock]
   · rw[hj]at hx;cases hx;exact h4.symm
   · rw[setL_old h1 hnd]
     unfold iQ at he ⊢
     rw[Array.toList_modify,List.map_set]
     have hjl:j<es.toList.length:=(List.getElem?_eq_some_iff.1 h3).1
     apply List.ext_getElem?
     intro i
     rw[List.getElem?_map,List.getElem?_modify,List.getElem?_set,←he]
     simp only[List.getElem?_map,List.length_map]
     by_cases hij:j=i
     · subst hij
       simp[h3,hjl]
       simpa using hjl
     · simp[hij]
theorem aL.del (h:aL ck cv w b m) (hk:hJ P k ck d) (ht:P.underlying t=some (.map k e)) (ty:TypeId) (a:K):
 ∃ w',(Builtin.delete_ #[t,k] ty #[.map (some b),ck a]).run P w= .ok (.tuple #[]) w'∧aL ck cv w' b (aW m a)∧Tn (fun q=>q=b) w w'∧w'.heap.size=w.heap.size:=by
 have hnd:=h.nodup hk
 obtain⟨es,cl,hb,hs,he⟩:=h
 have hch:=run_checkKey (P:=P) (w:=w) hk.und (hk.kind a)
 rcases jW hk a es.toList m 0 he with⟨h1,h2,h3⟩|⟨j,u,e0,h1,h2,h3,h4,h5,h6⟩
 · refine⟨setBlock w b (.map es cl),?_,⟨_,_,heap_setBlock_same hb _,hs,?_⟩,tn_set hb _,by simp[setBlock]⟩
   · simp[Builtin.delete_,run_underlying ht,MapKept.run_getObj_map hb,hch _ 9999,fO hk w h3,MapKept.run_setObj_map _ hb,Result.andThen,setBlock]
   · have:aW m a=m:=List.filter_eq_self.2 (fun p hp=>by simpa using h2 p hp)
     rw[this]
     exact he
 · have hjs:j<es.size:=by
    have:=(List.getElem?_eq_some_iff.1 h3).1
    simpa using this
   have hsub:(es.eraseIdxIfInBounds j).toList=es.toList.eraseIdx j:=by
    unfold Array.eraseIdxIfInBounds
    rw[dif_pos hjs]
    simp
   have hml:j<m.length:=(List.getElem?_eq_some_iff.1 h1).1
   have hdel:aW m a=m.eraseIdx j:=by
    have hsplit:m=m.take j++(a,u)::m.drop (j+1):=by
     rw[← (List.getElem?_eq_some_iff.1 h1).2]
     simp
    rw[List.eraseIdx_eq_take_drop_succ]
    have hne:∀ i p,m[i]?=some p→i≠j→p.1≠a:=by
     intro i p hi hij e
     have g1:(m.map (·.1))[i]?=some a:=by rw[List.getElem?_map,hi];simp[e]
     have g2:(m.map (·.1))[j]?=some a:=by rw[List.getElem?_map,h1];simp
     exact hij (at_one hnd g1 g2)
    unfold aW
    conv=>lhs;rw[hsplit]
    rw[List.filter_append,List.filter_cons]
    simp only[ne_eq,not_true_eq_false,decide_false,Bool.false_eq_true,if_false]
    congr 1
    · refine List.filter_eq_self.2 (fun p hp=>?_)
      obtain⟨i,hi⟩:=List.getElem?_of_mem hp
      rw[List.getElem?_take]at hi
      split at hi
      · simpa using hne i p hi (by omega)
      · cases hi
    · refine List.filter_eq_self.2 (fun p hp=>?_)
      obtain⟨i,hi⟩:=List.getElem?_of_mem hp
      rw[List.getElem?_drop]at hi
      simpa using hne _ p hi (by omega)
   refine⟨setBlock w b (.map (es.eraseIdxIfInBounds j) cl),?_,⟨_,_,heap_setBlock_same hb _,stamped_erase hs j,?_⟩,tn_set hb _,by simp[setBlock]⟩
   · simp[Builtin.delete_,run_underlying ht,MapKept.run_getObj_map hb,hch _ 9999,fO hk w h6,MapKept.run_setObj_map _ hb,Result.andThen,setBlock]
   · rw[hdel,hsub]
     unfold iQ at he ⊢
     rw[map_eraseIdx,he,map_eraseIdx]
def eS (ck:K→Value) (cv:V→Value) (w:World):Option Nat→List (K×V)→Prop
 |none,m=>m=[]
 |some b,m=>aL ck cv w b m
variable {ob:Option Nat}
theorem eS.look (h:eS ck cv w ob m) (hk:hJ P k ck d) (ht:P.underlying t=some (.map k e)) {z:Value} (hz:(zeroValue e).run P w= .ok z w) (c:Bool) (a:K):
 (Instr.lookup t (.map ob) (ck a) c).run P w= .ok (match aH m a with|some v=>if c then .tuple #[cv v,.bool true]else cv v|none=>if c then .tuple #[z,.bool false]else z) w:=by
 cases ob with
 |none=>
  obtain rfl:m=[]:=h
  have hch:=run_checkKey (P:=P) (w:=w) hk.und (hk.kind a) true 9999
  have hf:(Instr.findKey k (ck a) []).run P w= .ok none w:=fO hk w rfl
  simp[Instr.lookup,run_underlying ht,hch,hf,hz,aH,Result.andThen]
 |some b=>exact aL.look h hk ht hz c a
omit [DecidableEq K]in
theorem eS.len (h:eS ck cv w ob m) (ht:P.underlying t=some (.map k e)) (ty:TypeId):(Builtin.len_ #[t] ty #[.map ob]).run P w= .ok (.int .i64 m.length) w:=by
 cases ob with
 |none=>
  obtain rfl:m=[]:=h
  simp[Builtin.len_,run_underlying ht,goInt,Result.andThen]
 |some b=>exact aL.len h ht ty
theorem eS.del (h:eS ck cv w ob m) (hk:hJ P k ck d) (ht:P.underlying t=some (.map k e)) (ty:TypeId) (a:K):
 ∃ w',(Builtin.delete_ #[t,k] ty #[.map ob,ck a]).run P w= .ok (.tuple #[]) w'∧eS ck cv w' ob (aW m a)∧Tn (fun q=>ob=some q) w w'∧w'.heap.size=w.heap.size:=by
 cases ob with
 |none=>
  obtain rfl:m=[]:=h
  have hch:=run_checkKey (P:=P) (w:=w) hk.und (hk.kind a) true 9999
  exact⟨w,by simp[Builtin.delete_,run_underlying ht,hch,Result.andThen],rfl,Tn.refl _ _,rfl⟩
 |some b=>
  obtain⟨w',h1,h2,h3,h4⟩:=aL.del h hk ht ty a
  exact⟨w',h1,h2,h3.mono (fun q hq=>by rw[hq]),h4⟩
def gZ (ck:K→Value) (cv:V→Value) (w:World):Option Nat→Nat→List (K×V)→List (K×V)→Prop
 |none,r,m,todo=>m=[]∧todo=[]∧∃ a b c,w.heap[r]?=some (.mapIter none a b c)
 |some b,r,m,todo=>∃ es clock since seen c0,w.heap[b]?=some (.map es clock)∧Stamped es clock∧iQ ck cv es.toList m∧w.heap[r]?=some (.mapIter (some b) since seen c0)∧(∀ x∈es.toList,x.born<since)∧
  iQ ck cv (es.toList.filter (fun x=> !seen.contains x.born)) todo∧since≤c0∧since≤clock
variable {r:Nat} {todo:List (K×V)}
omit [DecidableEq K]in
theorem gZ.map (h:gZ ck cv w ob r m todo):eS ck cv w ob m:=by
 cases ob with
 |none=>exact h.1
 |some b=>
  obtain⟨es,clock,since,seen,c0,hb,hs,he,_⟩:=h
  exact⟨es,clock,hb,hs,he⟩
omit [DecidableEq K]in
theorem gZ.lt (h:gZ ck cv w ob r m todo):r<w.heap.size:=by
 cases ob with
 |none=>
  obtain⟨_,_,a,b,c,h⟩:=h
  exact(Array.getElem?_eq_some_iff.1 h).1
 |some b=>
  obtain⟨es,clock,since,seen,c0,_,_,_,hr,_⟩:=h
  exact(Array.getElem?_eq_some_iff.1 hr).1
omit [DecidableEq K]in
theorem gZ.tn {F:Nat→Prop} (h:gZ ck cv w ob r m todo) (ht:Tn F w w') (hb:∀ b,ob=some b→¬ F b) (hr:¬ F r):gZ ck cv w' ob r m todo:=by
 have h1:=h.lt
 have h2:=h.map
 cases ob with
 |none=>
  obtain⟨e1,e2,a,b,c,h⟩:=h
  exact⟨e1,e2,a,b,c,(ht.block r h1 hr).trans h⟩
 |some b=>
  have h3:=aL.lt h2
  obtain⟨es,clock,since,seen,c0,g1,g2,g3,g4,g5⟩:=h
  exact⟨es,clock,since,seen,c0,(ht.block b h3 (hb b rfl)).trans g1,g2,g3,(ht.block r h1 hr).trans g4,g5⟩
def leftN (w:World) (ob:Option Nat) (r:Nat):Nat:=match ob with|none=>0|some b=>w.rangeLeft b r
omit [DecidableEq K]in
theorem gZ.left (h:gZ ck cv w ob r m todo):leftN w ob r=todo.length:=by
 cases ob with
 |none=>obtain⟨_,rfl,_⟩:=h;rfl
 |some b=>
  obtain⟨es,clock,since,seen,c0,hb,_,_,hr,_,h6,_⟩:=h
  have:=congrArg List.length h6
  simp only[List.length_map]at this
  simp only[leftN,World.rangeLeft,hb,hr,leftOf]
  rw[← this,←Array.toList_filter,Array.length_toList]
omit [DecidableEq K]in
theorem eS.range (h:eS ck cv w ob m) (ht:P.underlying t=some (.map k e)):
 ∃ w',(Instr.range t (.map ob)).run P w= .ok (.pointer (some ⟨w.heap.size,0,none⟩)) w'∧gZ ck cv w' ob w.heap.size m m∧Below w.heap.size w w'∧w'.heap.size=w.heap.size+1:=by
 cases ob with
 |none=>exact⟨_,run_range_nilMap w t k e ht,⟨h,h,_,_,_,heap_alloc_new w _⟩,(Below.refl _ _).alloc (Nat.le_refl _) _,by simp⟩
 |some b=>
  have hlt:=aL.lt h
  obtain⟨es,clock,hb,hs,he⟩:=h
  refine⟨_,run_range_map w t k e b es clock ht hb,⟨es,clock,clock,#[],clock,?_,hs,he,heap_alloc_new w _,hs.1,?_,Nat.le_refl _,Nat.le_refl _⟩,(Below.refl _ _).alloc (Nat.le_refl _) _,by simp⟩
  · exact((MapKept.heap_alloc w _).2 b hlt).trans hb
  · have:es.toList.filter (fun x=> !(#[]:Array Nat).contains x.born)=es.toList:=List.filter_eq_self.2 (fun _ _=>by simp)
    rw[this]
    exact he
omit [DecidableEq K]in
theorem ents_append {A B:List MapEntry} {todo:List (K×V)} (h:iQ ck cv (A++B) todo):∃ p q,todo=p++q∧iQ ck cv A p∧iQ ck cv B q:=by
 unfold iQ at h ⊢
 rw[List.map_append]at h
 obtain⟨p,q,h1,h2,h3⟩:=List.map_eq_append_iff.1 h.symm
 exact⟨p,q,h1,h2.symm,h3.symm⟩
omit [DecidableEq K]in
theorem gZ.next (h:gZ ck cv w ob r m todo) (ty:TypeId):
 (todo=[]∧(Instr.next (.pointer (some ⟨r,0,none⟩)) false ty).run P w= .ok (.tuple #[.bool false]) w)∨
 ∃ pre p post w',todo=pre++p::post∧(Instr.next (.pointer (some ⟨r,0,none⟩)) false ty).run P w= .ok (.tuple #[.bool true,ck p.1,cv p.2]) w'∧gZ ck cv w' ob r m (pre++post)∧Tn (fun q=>q=r) w w'∧w'.heap.size=w.heap.size∧
  (Instr.entry (.pointer (some ⟨r,0,none⟩))).run P w'= .ok (.tuple #[ck p.1,cv p.2]) w':=by
 cases ob with
 |none=>
  obtain⟨_,rfl,a,b,c,hr⟩:=h
  exact .inl ⟨rfl,by simp[Instr.next,getObj,Sem.run,hr,Result.andThen]⟩
 |some b=>
  obtain⟨es,clock,since,seen,c0,hb,hs,he,hr,hold,htd,hsc,hsk⟩:=h
  have hne:r≠b:=by intro e;rw[e,hb]at hr;cases hr
  rcases run_next_at (P:=P) w ty r b since c0 seen es clock hr hb hold hsc with⟨h0,hrun⟩|⟨x,hx,w1,hal,hrun⟩
  · refine .inl ⟨?_,hrun⟩
    have hl:=congrArg List.length htd
    simp only[List.length_map]at hl
    unfold leftOf at h0
    rw[← Array.length_toList,Array.toList_filter]at h0
    exact List.eq_nil_of_length_eq_zero (by omega)
  · right
    obtain⟨hem,hes⟩:=mem_left hx
    have hx2:x∈es.toList.filter (fun x=> !seen.contains x.born):=List.mem_filter.2 ⟨hem,by rw[hes];rfl⟩
    obtain⟨A,B,hAB⟩:=List.append_of_mem hx2
    rw[hAB]at htd
    obtain⟨pre,q,rfl,hA,hq⟩:=ents_append htd
    have hq0:=hq
    unfold iQ at hq
    cases q with
    |nil=>simp at hq
    |cons p post=>
     simp only[List.map_cons,List.cons.injEq,Prod.mk.injEq]at hq
     obtain⟨⟨hpk,hpv⟩,hB⟩:=hq
     have hset:=heap_set (o':= .mapIter (some b) since (seen.push x.born) clock) (w:=w1) (r:=r) (o:= .mapIter (some b) since seen c0) (by rcases hal with rfl|rfl<;>exact hr)
     have hb1:w1.heap[b]?=some (.map es clock):=by rcases hal with rfl|rfl<;>exact hb
     have hb':(setBlock w1 r (.mapIter (some b) since (seen.push x.born) clock)).heap[b]?=some (.map es clock):=(hset.2 b (fun e1=>hne e1.symm)).trans hb1
     have hnd:(es.toList.map (·.born)).Nodup:=hs.2.1
     refine⟨pre,p,post,_,rfl,by rw[← hpk,←hpv];exact hrun,⟨es,clock,since,seen.push x.born,clock,hb',hs,he,hset.1,hold,?_,hsk,hsk⟩,?_,?_,?_⟩
     · have hf:es.toList.filter (fun y=> !(seen.push x.born).contains y.born)=A++B:=by
        have h1:es.toList.filter (fun y=> !(seen.push x.born).contains y.born)=(es.toList.filter (fun y=> !seen.contains y.born)).filter (fun y=> !(y.born == x.born)):=by
         rw[List.filter_filter]
         congr 1
         funext y
         rw[contains_push]
         cases seen.contains y.born<;>cases (y.born == x.born)<;>rfl
        rw[h1,hAB,List.filter_append,List.filter_cons]
        simp only[beq_self_eq_true,Bool.not_true,Bool.false_eq_true,if_false]
        have hsub:((A++x::B).map (·.born)).Nodup:=by
         rw[← hAB]
         exact List.Nodup.sublist (List.Sublist.map _ List.filter_sublist) hnd
        rw[List.map_append,List.map_cons,List.nodup_append]at hsub
        obtain⟨_,h3,h4⟩:=hsub
        congr 1
        · refine List.filter_eq_self.2 (fun y hy=>?_)
          have:=h4 y.born (List.mem_map.2 ⟨y,hy,rfl⟩) x.born (by simp)
          simpa using this
        · refine List.filter_eq_self.2 (fun y hy=>?_)
          have:=(List.nodup_cons.1 h3).1
          have hyx:y.born≠x.born:=fun e=>this (List.mem_map.2 ⟨y,hy,e⟩)
          simpa using hyx
       rw[hf]
       unfold iQ at hA ⊢
       rw[List.map_append,List.map_append,hA,hB]
     · rcases hal with rfl|rfl<;>exact⟨rfl,rfl,rfl,by simp[setBlock],fun i _ hi=>hset.2 i hi⟩
     · rcases hal with rfl|rfl<;>simp[setBlock]
     · rw[← hpk,←hpv]
       exact run_entry_at _ r b since seen es clock x hset.1 hb' hem hnd
end
section
variable {P:Program} {t k e:TypeId} {K V:Type} [DecidableEq K] {ck:K→Value} {cv:V→Value} {d:TypeDesc}
variable {w:World} {ops:Array Oper} {rest:List Oper} {o:Oper} {a:Act} {Q:Exit→Act→World→Prop} {ob:Option Nat} {m:List (K×V)}
theorem kZ (hg:o.guard=none) (mo xo vo:Operand) (hop:o.op=Op.mapUpdate t mo xo vo) (hk:hJ P k ck d) (ht:P.underlying t=some (.map k e)) {b:Nat}
 (hm:a.eval mo= .map (some b)) (h:aL ck cv w b m) (x:K) (hx:a.eval xo=ck x) (v:V) (hv:a.eval vo=cv v)
 (hK:∀ w',aL ck cv w' b (aG m x v)→Tn (fun q=>q=b) w w'→w'.heap.size=w.heap.size→wpList P ops Q rest (a.put o.dst undef) w'):wpList P ops Q (o::rest) a w:=by
 refine wpList_plain hg fun K' hK'=>?_
 obtain⟨w',hrun,r1,r2,r3⟩:=h.put hk ht x v
 unfold Oper.wp
 simp[execOp,hop,hm,hx,hv,hrun,Result.andThen]
 exact hK' _ _ (hK w' r1 r2 r3)
theorem wpl_del (hg:o.guard=none) (mo xo:Operand) (hop:o.op=Op.call {callee:=Callee.builtin Builtin.delete,args:= #[mo,xo],argTypes:= #[t,k]}) (hk:hJ P k ck d) (ht:P.underlying t=some (.map k e))
 (hm:a.eval mo= .map ob) (h:eS ck cv w ob m) (x:K) (hx:a.eval xo=ck x)
 (hK:∀ w',eS ck cv w' ob (aW m x)→Tn (fun q=>ob=some q) w w'→w'.heap.size=w.heap.size→wpList P ops Q rest (a.put o.dst (.tuple #[])) w'):wpList P ops Q (o::rest) a w:=by
 refine wpList_plain hg fun K' hK'=>?_
 obtain⟨w',hrun,r1,r2,r3⟩:=h.del hk ht o.type x
 unfold Oper.wp
 simp[execOp,hop,resolve,invoke,builtin,hm,hx,hrun,Result.andThen]
 exact hK' _ _ (hK w' r1 r2 r3)
omit [DecidableEq K]in
theorem jM (hg:o.guard=none) (mo:Operand) (hop:o.op=Op.range t mo) (ht:P.underlying t=some (.map k e)) (hm:a.eval mo= .map ob) (h:eS ck cv w ob m)
 (hK:∀ w',gZ ck cv w' ob w.heap.size m m→Below w.heap.size w w'→w'.heap.size=w.heap.size+1→wpList P ops Q rest (a.put o.dst (.pointer (some ⟨w.heap.size,0,none⟩))) w'):wpList P ops Q (o::rest) a w:=by
 refine wpList_plain hg fun K' hK'=>?_
 obtain⟨w',hrun,r1,r2,r3⟩:=h.range ht
 unfold Oper.wp
 simp[execOp,hop,hm,hrun,Result.andThen]
 exact hK' _ _ (hK w' r1 r2 r3)
omit [DecidableEq K]in
theorem lA (hg:o.guard=none) (it:Operand) (hop:o.op=Op.next it false) {r:Nat} {todo:List (K×V)} (hit:a.eval it= .pointer (some ⟨r,0,none⟩)) (h:gZ ck cv w ob r m todo)
 (hD:todo=[]→wpList P ops Q rest (a.put o.dst (.tuple #[.bool false])) w)
 (hM:∀ pre p post w',todo=pre++p::post→gZ ck cv w' ob r m (pre++post)→Tn (fun q=>q=r) w w'→w'.heap.size=w.heap.size→(Instr.entry (.pointer (some ⟨r,0,none⟩))).run P w'= .ok (.tuple #[ck p.1,cv p.2]) w'→
  wpList P ops Q rest (a.put o.dst (.tuple #[.bool true,ck p.1,cv p.2])) w'):wpList P ops Q (o::rest) a w:=by
 refine wpList_plain hg fun K' hK'=>?_
 unfold Oper.wp
 rcases h.next (P:=P) o.type with⟨h0,hrun⟩|⟨pre,p,post,w',h1,hrun,h2,h3,h4,h5⟩
 · simp[execOp,hop,hit,hrun,Result.andThen]
   exact hK' _ _ (hD h0)
 · simp[execOp,hop,hit,hrun,Result.andThen]
   exact hK' _ _ (hM pre p post w' h1 h2 h3 h4 h5)
end
end
section
open Go.Lib
theorem cmp_range:∀ (a b:List UInt8),-1≤compareBytes a b∧compareBytes a b≤1
 |[],[]=>by simp[compareBytes]
 |[],_::_=>by simp[compareBytes]
 |_::_,[]=>by simp[compareBytes]
 |a::al,b::bs=>by
  have ih:=cmp_range al bs
  unfold compareBytes
  split
  · omega
  · split
    · omega
    · exact ih
theorem cmp_self:∀ (a:List UInt8),compareBytes a a=0
 |[]=>rfl
 |a::al=>by unfold compareBytes;rw[if_neg (UInt8.lt_irrefl a),if_neg (UInt8.lt_irrefl a)];exact cmp_self al
theorem cmp_zero:∀ (a b:List UInt8),compareBytes a b=0→a=b
 |[],[],_=>rfl
 |[],_::_,h=>by simp[compareBytes]at h
 |_::_,[],h=>by simp[compareBytes]at h
 |a::al,b::bs,h=>by
  unfold compareBytes at h
  split at h
  · omega
  · split at h
    · omega
    · rename_i h1 h2
      have e:a=b:=by
       apply UInt8.toNat.inj
       rw[UInt8.lt_iff_toNat_lt]at h1 h2
       omega
      rw[e,cmp_zero al bs h]
theorem cmp_neg:∀ (a b:List UInt8),compareBytes b a= -compareBytes a b
 |[],[]=>rfl
 |[],_::_=>rfl
 |_::_,[]=>rfl
 |a::al,b::bs=>by
  unfold compareBytes
  by_cases h1:a<b
  · have h2:¬ b<a:=by rw[UInt8.lt_iff_toNat_lt]at h1 ⊢;omega
    rw[if_neg h2,if_pos h1,if_pos h1];rfl
  · by_cases h2:b<a
    · rw[if_pos h2,if_neg h1,if_pos h2]
    · rw[if_neg h2,if_neg h1,if_neg h1,if_neg h2];exact cmp_neg al bs
theorem cmp_trans:∀ (a b c:List UInt8),compareBytes a b≤0→compareBytes b c≤0→compareBytes a c≤0∧(compareBytes a b<0∨compareBytes b c<0→compareBytes a c<0)
 |[],[],[],_,_=>by simp[compareBytes]
 |[],[],_::_,_,_=>by simp[compareBytes]
 |[],_::_,[],_,h=>by simp[compareBytes]at h
 |[],_::_,_::_,_,_=>by simp[compareBytes]
 |_::_,[],_,h,_=>by simp[compareBytes]at h
 |_::_,_::_,[],_,h=>by simp[compareBytes]at h
 |a::al,b::bs,c::cs,h1,h2=>by
  have ih:=cmp_trans al bs cs
  unfold compareBytes at h1 h2 ⊢
  simp only[UInt8.lt_iff_toNat_lt]at h1 h2 ⊢
  by_cases a1:a.toNat<b.toNat
  · rw[if_pos a1]at h1 ⊢
    by_cases b1:b.toNat<c.toNat
    · rw[if_pos (by omega)];omega
    · rw[if_neg b1]at h2
      by_cases b2:c.toNat<b.toNat
      · rw[if_pos b2]at h2;omega
      · rw[if_pos (by omega)];omega
  · rw[if_neg a1]at h1 ⊢
    by_cases a2:b.toNat<a.toNat
    · rw[if_pos a2]at h1;omega
    · rw[if_neg a2]at h1 ⊢
      by_cases b1:b.toNat<c.toNat
      · rw[if_pos (by omega)];omega
      · rw[if_neg b1]at h2 ⊢
        by_cases b2:c.toNat<b.toNat
        · rw[if_pos b2]at h2;omega
        · rw[if_neg b2]at h2 ⊢
          rw[if_neg (by omega),if_neg (by omega)]
          exact ih h1 h2
end
theorem aA {a b:Prop} (x:a) (y:b):a∧b:=⟨x,y⟩
open Go.RowKit in
theorem aB {a:Prop} (x:a):Hid a:=Lib.hid x
end Go.Proofs.YtpfibkgmfapnjaaGreatDoor
