/- Manifest, plain: edits of notes alone; what the laws ManifestJoined and ManifestGrows ask. -/
import Derived.Test.YtpfibkgmfapnjaaGreatDoorS2
import Derived.Test.YtpfibkgmfapnjaaGreatDoorS1
import Derived.Laws.AppendOwnNone
import Derived.Laws.OwnMore
import Derived.ArgAppend
import Derived.Test.YtpfibkgmfapnjaaGreatDoorShS
set_option linter.unusedSimpArgs false
set_option linter.unusedVariables false
namespace Go.Proofs.YtpfibkgmfapnjaaGreatDoor
section
open Go.Lib
theorem lN {K V:Type} [DecidableEq K] {m:List (K×V)} (hn:(m.map (·.1)).Nodup) {a:K} {v:V}:aH m a=some v↔(a,v)∈m:=by
 refine⟨cG,fun h=>?_⟩
 induction m with
 |nil=>simp at h
 |cons p m ih=>
  obtain⟨h1,h2⟩:=List.nodup_cons.1 hn
  unfold aH
  rw[List.find?_cons]
  by_cases hp:p.1=a
  · have hd:decide (p.1=a)=true:=decide_eq_true hp
    simp only[hd]
    rcases List.mem_cons.1 h with e|h
    · rw[← e];rfl
    · exact absurd (List.mem_map.2 ⟨_,h,rfl⟩:a∈m.map (·.1)) (hp▸h1)
  · have hd:decide (p.1=a)=false:=decide_eq_false hp
    simp only[hd]
    rcases List.mem_cons.1 h with e|h
    · rw[← e]at hp;exact absurd rfl hp
    · exact ih h2 h
theorem fU (l:List KV) (q:KV):aU (l++[q])=aG (aU l) q.1 q.2:=by unfold aU;rw[List.foldl_append];rfl
theorem baseN_self {l:List KV} (h:(l.map (·.1)).Nodup):aU l=l:=by
 have:∀ (l m:List KV),((m++l).map (·.1)).Nodup→l.foldl (fun m p=>aG m p.1 p.2) m=m++l:=by
  intro l
  induction l with
  |nil=>intro m _;simp
  |cons p l ih=>
   intro m hn
   have h1:∀ q∈m,q.1≠p.1:=fun q hq e=>by
    rw[List.map_append]at hn
    exact(List.nodup_append.1 hn).2.2 q.1 (List.mem_map.2 ⟨q,hq,rfl⟩) p.1 (by simp) e
   rw[List.foldl_cons,iY h1,ih _ (by simpa using hn)]
   simp
 exact this l [] (by simpa using h)
theorem kO {s e:List KV} {p:KV}:p∈aZ s e↔aH (aU (s++e)) p.1=some p.2∧p.2.size≠0:=by
 unfold aZ
 rw[(dZ _).mem_iff,List.mem_filter,lN (jI _)]
 simp
theorem SrtN.nd {l:List KV} (h:SrtN l):(l.map (·.1)).Nodup:=by
 refine List.pairwise_map.2 (h.imp (fun {a b} h1 e=>?_))
 unfold LtN at h1
 rw[e,kc_self]at h1
 omega
theorem vals_base (fs:List Fi):gE (dU fs)=fs:=by
 unfold gE dU
 rw[List.map_map]
 exact List.map_id _
theorem tabF_none {s:PS} (h:cR s) (log:Int) (fl:List Int) (ns:List KV):cU s ⟨[],[],log,fl,ns⟩=(0,s.fs,max s.next 1):=by
 unfold cU
 simp only[remF,iJ]
 rw[vals_base,sortFi_self h.nums h.srt]
theorem applyF_notes {s:PS} (h:cR s) {l:List KV} (hl:l.all dB=true) (ht:aJ l≤50000):
 ((50<(aZ s.ns l).length∨50000<aJ (aZ s.ns l))∧aO s ⟨[],[],0,[],l⟩=(2,s00))∨
 (¬ (50<(aZ s.ns l).length∨50000<aJ (aZ s.ns l))∧aO s ⟨[],[],0,[],l⟩=(0,⟨s.fs,max s.next 1,s.log,s.fl,aZ s.ns l⟩)):=by
 have hr:bO ⟨[],[],0,[],l⟩=true:=by
  unfold bO inI
  simp[hl]
 have hno:¬ kY s ⟨[],[],0,[],l⟩:=by
  unfold kY
  simp
 have hf:=h.few
 unfold aO
 rw[tabF_none h]
 rw[if_neg (by rw[hr];simp),if_neg (by simp),if_neg hno,if_neg (by simp only[Classical.not_not];exact h.apart)]
 by_cases hlong:50<(aZ s.ns l).length∨50000<aJ (aZ s.ns l)
 · left
   refine⟨hlong,if_pos ?_⟩
   unfold dM
   simp only
   omega
 · right
   refine⟨hlong,(if_neg ?_).trans ?_⟩
   · unfold dM
     simp only[List.length_nil]
     omega
   · simp
end
section
open Go.RowKit
structure kJ (P:Program) (T E:TypeId) (k by_:Nat) {α:Type} (cell:α→List Value):Prop where
 und:P.underlying T=some (.slice E)
 info:∃ i z,P.info? E=some i∧i.zero=some z∧i.size=k∧i.bytes=by_∧z.cells.size=k
 pos:0<k
 few:by_≤1000
 len:∀ x,(cell x).length=k
 one:∀ x,∀ u∈cell x,u.oneCell'=true
section
variable {P:Program} {T E:TypeId} {k by_:Nat} {α:Type} {cell:α→List Value}
theorem kJ.lens (e:kJ P T E k by_ cell) (l:List α):(l.flatMap cell).length=l.length*k:=by
 induction l with
 |nil=>simp
 |cons m l ih=>rw[List.flatMap_cons,List.length_append,ih,List.length_cons,e.len,Nat.add_mul];omega
theorem kJ.ones (e:kJ P T E k by_ cell) (l:List α):∀ u∈l.flatMap cell,u.oneCell'=true:=by
 intro u hu
 simp only[List.mem_flatMap]at hu
 obtain⟨m,_,hm⟩:=hu
 exact e.one m u hm
theorem kJ.get (e:kJ P T E k by_ cell) (l:List α) (i j:Nat) (hi:i<l.length) (hj:j<k):(l.flatMap cell)[i*k+j]?=(cell l[i])[j]?:=by
 induction l generalizing i with
 |nil=>simp at hi
 |cons m l ih=>
  rw[List.flatMap_cons]
  cases i with
  |zero=>rw[Nat.zero_mul,Nat.zero_add,List.getElem?_append_left (by rw[e.len];exact hj)];rfl
  |succ i=>
   have h:=ih i (by simpa using hi)
   rw[List.getElem?_append_right (by rw[e.len,Nat.add_mul];omega),show(i+1)*k+j - (cell m).length=i*k+j by rw[e.len,Nat.add_mul];omega,h]
   rfl
abbrev bE (_e:kJ P T E k by_ cell) (w:World) (B:Nat) (v:Value) (l:List α):Prop:=w.ownsRow B E k v l.length (l.flatMap cell)
def Src (_e:kJ P T E k by_ cell) (w:World) (x:Value) (l:List α):Prop:=
 (x= .slice none 0 0∧l=[])∨∃ ad c,x= .slice (some ad) l.length c∧∀ j u,(l.flatMap cell)[j]?=some u→w.cell? (ad.add j)=some u
theorem aI {w:World} {B e s n:Nat} {v:Value} {xs:List Value} (h:w.ownsRow B e s v n xs):∃ a cap,v= .slice a n cap∧n≤cap∧cap≤9223372036854775807:=by
 obtain⟨_,h2⟩:=h
 rcases h2 with⟨rfl,h0⟩|⟨g,cap,cur,rfl,hg,hh,hn,hc,_⟩
 · exact⟨none,0,by rw[h0],by omega,by omega⟩
 · exact⟨_,cap,rfl,hn,by unfold maxLen at hc;omega⟩
theorem aK {w:World} {B B' e s n:Nat} {v:Value} {xs:List Value} (h:w.ownsRow B e s v n xs) (hB:B'≤B):w.ownsRow B' e s v n xs:=by
 obtain⟨h1,h2⟩:=h
 refine⟨h1,?_⟩
 rcases h2 with h2|⟨g,cap,cur,hv,hg,r⟩
 · exact .inl h2
 · exact .inr ⟨g,cap,cur,hv,Nat.le_trans hB hg,r⟩
theorem below_grown {w w':World} {B e s n:Nat} {v:Value} {xs:List Value} (h:w.ownsRow B e s v n xs) (hg:w.grownBy w' v.ownBlock) (hB:B≤w.heap.size):Below B w w':=
 (Tn.ofGrown (F:=fun q=>B≤q) hg (fun q hq=>(h.lt q hq).1)).below hB (fun _ e=>e)
theorem aD {w w':World} {B e s n:Nat} {v:Value} {xs:List Value} (h:w.ownsRow B e s v n xs) (hb:Below w.heap.size w w'):w'.ownsRow B e s v n xs:=
 (Tn.ofBelow (F:=fun _=>False) hb).row h (fun _ _ h=>h)
theorem lY (g o j:Nat):(⟨g,o,none⟩:Addr).add j=⟨g,o+j,none⟩:=by unfold Addr.add;split<;>simp_all
theorem bE.src {e:kJ P T E k by_ cell} {w:World} {B:Nat} {v:Value} {l:List α} (h:bE e w B v l):Src e w v l:=by
 have h0:=h
 obtain⟨h1,h2⟩:=h
 rcases h2 with⟨h2,h3⟩|⟨g,cap',cur,h2,hg,hh,hn,hc,hcl,htk⟩
 · exact .inl ⟨h2,List.eq_nil_of_length_eq_zero h3⟩
 · subst h2
   refine .inr ⟨_,cap',rfl,fun j u hj=>?_⟩
   have hjl:j<l.length*k:=by rw[← e.lens];exact(List.getElem?_eq_some_iff.1 hj).1
   rw[lY,Nat.zero_add,h0.cellAt j hjl,hj]
theorem eW {e:kJ P T E k by_ cell} (w:World) (x:α) (cs:Array Value) (t:TypeId) (hc:cell x=cs.toList) (c:Nat):Src e (w.alloc (.cells cs t)) (.slice (some ⟨w.heap.size,0,none⟩) 1 c) [x]:=by
 refine .inr ⟨_,c,rfl,?_⟩
 intro j u hj
 simp only[List.flatMap_cons,List.flatMap_nil,List.append_nil,hc]at hj
 rw[lY,Nat.zero_add]
 simp only[Array.getElem?_toList]at hj
 simp[go_sem,hj]
theorem run_app (e:kJ P T E k by_ cell) (ty:TypeId) {w:World} {B:Nat} {v x:Value} {l l2:List α} (hown:bE e w B v l) (hsrc:Src e w x l2) (hlen:l.length+l2.length≤100000000) (hB:B≤w.heap.size):
 ∃ a cap w',(Builtin.append_ #[T,T] ty #[v,x]).run P w= .ok (.slice a (l.length+l2.length) cap) w'∧bE e w' B (.slice a (l.length+l2.length) cap) (l++l2)∧Below B w w'∧w.grownBy w' v.ownBlock∧((Value.slice a (l.length+l2.length) cap).ownBlock=v.ownBlock∨(Value.slice a (l.length+l2.length) cap).ownBlock=some w.heap.size):=by
 obtain⟨i,z,hi,hz,hsz,hby,hzs⟩:=e.info
 rcases hsrc with⟨rfl,rfl⟩|⟨ad,c,rfl,hcell⟩
 · obtain⟨a,cap,rfl,_,_⟩:=aI hown
   have hg:w.grownBy w (Value.slice a l.length cap).ownBlock:=⟨rfl,rfl,rfl,Nat.le_refl _,fun _ _ _=>rfl⟩
   exact⟨a,cap,w,run_append_owned_none (P:=P) (w:=w) B T ty E i k e.und hi _ _ _ hown,by simpa using hown,Below.refl _ _,hg,.inl rfl⟩
 · have hfew:=e.few
   have hb:(l.length+l2.length)*by_≤140737488355328:=Nat.le_trans (Nat.mul_le_mul hlen hfew) (by omega)
   obtain⟨v',w',hr,h2,h3,_,h5⟩:=run_append_own_at (P:=P) w B T ty E i z k by_ e.und hi hz hsz hby hzs e.pos v l.length (l.flatMap cell) hown ad l2.length c (l2.flatMap cell)
    (e.lens l2) hcell (e.ones l2) (by unfold maxLen;omega) hb hB
   obtain⟨a,cap,rfl,_,_⟩:=aI h2
   refine⟨a,cap,w',hr,?_,below_grown hown h3 hB,h3,h5⟩
   show w'.ownsRow B E k _ _ _
   rw[List.length_append,List.flatMap_append]
   exact h2
section
variable {w:World} {ops:Array Oper} {rest:List Oper} {o:Oper} {a:Act} {Q:Exit→Act→World→Prop} {K:Act→World→Prop}
theorem wp_app (e:kJ P T E k by_ cell) (s x:Operand) (ho:o.op= .call {callee:= .builtin .append,args:= #[s,x],argTypes:= #[T,T]}) {B:Nat} {v xv:Value} {l l2:List α} (hs:a.eval s=v) (hx:a.eval x=xv)
 (hown:bE e w B v l) (hsrc:Src e w xv l2) (hlen:l.length+l2.length≤100000000) (hB:B≤w.heap.size)
 (h:∀ a' cap w',bE e w' B (.slice a' (l.length+l2.length) cap) (l++l2)→Below B w w'→w.grownBy w' v.ownBlock→((Value.slice a' (l.length+l2.length) cap).ownBlock=v.ownBlock∨(Value.slice a' (l.length+l2.length) cap).ownBlock=some w.heap.size)→K (a.put o.dst (.slice a' (l.length+l2.length) cap)) w'):o.wp P a w K Q:=by
 obtain⟨a',cap,w',hr,h2,h3,h4,h5⟩:=run_app e o.type hown hsrc hlen hB
 unfold Oper.wp execOp
 simp only[ho,resolve,invoke,builtin,Sem.run_bind,Sem.run_pure,Result.andThen_ok,List.map_toArray,List.map_cons,List.map_nil,hs,hx,hr]
 exact h a' cap w' h2 h3 h4 h5
theorem fK (e:kJ P T E k by_ cell) (hgd:o.guard=none) (s x:Operand) (ho:o.op= .call {callee:= .builtin .append,args:= #[s,x],argTypes:= #[T,T]}) {B:Nat} {v xv:Value} {l l2:List α} (hs:a.eval s=v) (hx:a.eval x=xv)
 (hown:bE e w B v l) (hsrc:Src e w xv l2) (hlen:l.length+l2.length≤100000000) (hB:B≤w.heap.size)
 (h:∀ a' cap w',bE e w' B (.slice a' (l.length+l2.length) cap) (l++l2)→Below B w w'→w.grownBy w' v.ownBlock→((Value.slice a' (l.length+l2.length) cap).ownBlock=v.ownBlock∨(Value.slice a' (l.length+l2.length) cap).ownBlock=some w.heap.size)→wpList P ops Q rest (a.put o.dst (.slice a' (l.length+l2.length) cap)) w'):wpList P ops Q (o::rest) a w:=
 wpList_plain hgd fun _ hK=>wp_app e s x ho hs hx hown hsrc hlen hB fun a' cap w' h2 h3 h4 h5=>hK _ _ (h a' cap w' h2 h3 h4 h5)
theorem lE {F:Prop} (e:kJ P T E k by_ cell) (hgd:o.guard=none) (s x:Operand) (ho:o.op= .call {callee:= .builtin .append,args:= #[s,x],argTypes:= #[T,T]}) {B:Nat} {v xv:Value} {l l2:List α} (hs:a.eval s=v) (hx:a.eval x=xv)
 (hown:bE e w B v l) (hsrc:Src e w xv l2) (hlen:l.length+l2.length≤100000000) (hB:B≤w.heap.size)
 (h:∀ a' cap w',bE e w' B (.slice a' (l.length+l2.length) cap) (l++l2)→Below B w w'→w.grownBy w' v.ownBlock→((Value.slice a' (l.length+l2.length) cap).ownBlock=v.ownBlock∨(Value.slice a' (l.length+l2.length) cap).ownBlock=some w.heap.size)→K (a.put o.dst (.slice a' (l.length+l2.length) cap)) w'):
 if Region.wanted o (yielded ops a.tmps)=true then o.wp P a w K Q else F:=by
 have hw:Region.wanted o (yielded ops a.tmps)=true:=by simp[Region.wanted,hgd]
 rw[if_pos hw]
 exact wp_app e s x ho hs hx hown hsrc hlen hB h
end
end
end
section
open Go.RowKit
theorem row_prefix {w:World} {B e s n m g cap:Nat} {xs ys:List Value} (h:w.ownsRow B e s (.slice (some ⟨g,0,none⟩) (n+m) cap) (n+m) (xs++ys)) (hx:xs.length=n*s):w.ownsRow B e s (.slice (some ⟨g,0,none⟩) n cap) n xs:=by
 obtain⟨_,h2⟩:=h
 refine⟨hx,?_⟩
 rcases h2 with⟨h2,_⟩|⟨g',cap',cur,h2,hg,hh,hn,hc,hcl,htk⟩
 · cases h2
 · cases h2
   refine .inr ⟨g,cap,cur,rfl,hg,hh,by omega,hc,hcl,?_⟩
   have h3:=congrArg (List.take (n*s)) htk
   rw[List.take_take,Nat.min_eq_left (Nat.mul_le_mul_right _ (by omega)),List.take_append_of_le_length (by omega)]at h3
   rw[h3]
   exact List.take_of_length_le (by omega)
section
variable {P:Program} {T E:TypeId} {k by_:Nat} {α:Type} {cell:α→List Value}
structure Appd (e:kJ P T E k by_ cell) (w w':World) (B:Nat) (v v':Value) (l l2:List α):Prop where
 own:bE e w' B v' (l++l2)
 old:bE e w' B v l
 tn:Tn (fun q=>v.ownBlock=some q) w w'
 block:v'.ownBlock=v.ownBlock∨∀ q,v'.ownBlock=some q→w.heap.size≤q
theorem run_app2 (e:kJ P T E k by_ cell) (ty:TypeId) {w:World} {B:Nat} {v x:Value} {l l2:List α} (hown:bE e w B v l) (hsrc:Src e w x l2) (hlen:l.length+l2.length≤100000000) (hB:B≤w.heap.size):
 ∃ a cap w',(Builtin.append_ #[T,T] ty #[v,x]).run P w= .ok (.slice a (l.length+l2.length) cap) w'∧Appd e w w' B v (.slice a (l.length+l2.length) cap) l l2:=by
 obtain⟨i,z,hi,hz,hsz,hby,hzs⟩:=e.info
 rcases hsrc with⟨rfl,rfl⟩|⟨ad,c,rfl,hcell⟩
 · obtain⟨a,cap,rfl,_,_⟩:=aI hown
   exact⟨a,cap,w,run_append_owned_none (P:=P) (w:=w) B T ty E i k e.und hi _ _ _ hown,by simpa using hown,hown,Tn.refl _ _,.inl rfl⟩
 · have hfew:=e.few
   have hb:(l.length+l2.length)*by_≤140737488355328:=Nat.le_trans (Nat.mul_le_mul hlen hfew) (by omega)
   have h0:=hown
   obtain⟨hxl,h2⟩:=hown
   rcases h2 with⟨rfl,hl0⟩|⟨g,cap,cur,rfl,hg,hh,hn,hc,hcl,htk⟩
   · obtain⟨v',w',hr,h2,h3,_,h5⟩:=run_append_own_at (P:=P) w B T ty E i z k by_ e.und hi hz hsz hby hzs e.pos (.slice none 0 0) l.length (l.flatMap cell) h0 ad l2.length c (l2.flatMap cell)
      (e.lens l2) hcell (e.ones l2) (by unfold maxLen;omega) hb hB
     obtain⟨a,cap,rfl,_,_⟩:=aI h2
     refine⟨a,cap,w',hr,?_,?_,Tn.ofGrown h3 (fun q hq=>hq),?_⟩
     · show w'.ownsRow B E k _ _ _
       rw[List.length_append,List.flatMap_append]
       exact h2
     · exact⟨hxl,.inl ⟨rfl,hl0⟩⟩
     · rcases h5 with h5|h5
       · exact .inl h5
       · exact .inr fun q hq=>by rw[h5]at hq;injection hq with hq;omega
   · by_cases hroom:l.length+l2.length≤cap
     · obtain⟨w',hr,h2,h3⟩:=run_append_fits (P:=P) w B T ty E i k e.und hi hsz g l.length cap (l.flatMap cell) h0 ad l2.length c (l2.flatMap cell) (e.lens l2) hcell (e.ones l2) hroom
       refine⟨_,cap,w',hr,?_,row_prefix h2 hxl,Tn.ofGrown h3 (fun q hq=>hq),.inl rfl⟩
       show w'.ownsRow B E k _ _ _
       rw[List.length_append,List.flatMap_append]
       exact h2
     · obtain⟨v',w',hr,h2,h3⟩:=run_append_arg_grows (P:=P) w T ty E i z k by_ e.und hi hz hsz hby hzs e.pos ⟨g,0,none⟩ l.length cap (l.flatMap cell) hxl (fun j u hj=>by
        have hjl:j<l.length*k:=by rw[← hxl];exact(List.getElem?_eq_some_iff.1 hj).1
        rw[lY,Nat.zero_add,h0.cellAt j hjl,hj]) ad l2.length c (l2.flatMap cell) (e.lens l2) hcell (by omega) (by unfold maxLen;omega) hb
       obtain⟨a,cap',rfl,_,_⟩:=aI h2
       have htn:Tn (fun _=>False) w w':=Tn.ofGrown h3 (fun q hq=>by cases hq)
       refine⟨a,cap',w',hr,?_,htn.row h0 (fun _ _ h=>h),htn.mono (fun _ h=>h.elim),.inr fun q hq=>(h2.lt q hq).1⟩
       show w'.ownsRow B E k _ _ _
       rw[List.length_append,List.flatMap_append]
       exact aK h2 hB
section
variable {w:World} {ops:Array Oper} {rest:List Oper} {o:Oper} {a:Act} {Q:Exit→Act→World→Prop} {K:Act→World→Prop}
theorem wp_app2 (e:kJ P T E k by_ cell) (s x:Operand) (ho:o.op= .call {callee:= .builtin .append,args:= #[s,x],argTypes:= #[T,T]}) {B:Nat} {v xv:Value} {l l2:List α} (hs:a.eval s=v) (hx:a.eval x=xv)
 (hown:bE e w B v l) (hsrc:Src e w xv l2) (hlen:l.length+l2.length≤100000000) (hB:B≤w.heap.size)
 (h:∀ a' cap w',Appd e w w' B v (.slice a' (l.length+l2.length) cap) l l2→K (a.put o.dst (.slice a' (l.length+l2.length) cap)) w'):o.wp P a w K Q:=by
 obtain⟨a',cap,w',hr,h2⟩:=run_app2 e o.type hown hsrc hlen hB
 unfold Oper.wp execOp
 simp only[ho,resolve,invoke,builtin,Sem.run_bind,Sem.run_pure,Result.andThen_ok,List.map_toArray,List.map_cons,List.map_nil,hs,hx,hr]
 exact h a' cap w' h2
theorem step_app2 {F:Prop} (e:kJ P T E k by_ cell) (hgd:o.guard=none) (s x:Operand) (ho:o.op= .call {callee:= .builtin .append,args:= #[s,x],argTypes:= #[T,T]}) {B:Nat} {v xv:Value} {l l2:List α} (hs:a.eval s=v) (hx:a.eval x=xv)
 (hown:bE e w B v l) (hsrc:Src e w xv l2) (hlen:l.length+l2.length≤100000000) (hB:B≤w.heap.size)
 (h:∀ a' cap w',Appd e w w' B v (.slice a' (l.length+l2.length) cap) l l2→K (a.put o.dst (.slice a' (l.length+l2.length) cap)) w'):
 if Region.wanted o (yielded ops a.tmps)=true then o.wp P a w K Q else F:=by
 have hw:Region.wanted o (yielded ops a.tmps)=true:=by simp[Region.wanted,hgd]
 rw[if_pos hw]
 exact wp_app2 e s x ho hs hx hown hsrc hlen hB h
end
end
end
section
open Go.RowKit
theorem info_fi:(Tryz.prog.info? 79).map (fun i=>(i.zero,i.size,i.bytes))=some (some (.agg #[.int .i64 0,.int .i64 0,.int .i64 0,.int .i64 0,.string ByteArray.empty,.string ByteArray.empty]),6,64):=by kernel_rfl
theorem eFi:kJ Tryz.prog 30 79 6 64 Fi.cells where
 und:=Tryz.underlying30
 info:=by
  obtain⟨i0,hi0,hz0,hs0,hy0⟩:=info_parts info_fi
  exact⟨i0,_,hi0,hz0,hs0,hy0,rfl⟩
 pos:=by decide
 few:=by decide
 len _:=rfl
 one:=by
  intro x u hu
  simp only[Fi.cells,List.mem_cons,List.not_mem_nil,or_false]at hu
  rcases hu with rfl|rfl|rfl|rfl|rfl|rfl<;>rfl
def cNt (p:KV):List Value:=[.string p.1,.string p.2]
theorem info_nt:(Tryz.prog.info? 74).map (fun i=>(i.zero,i.size,i.bytes))=some (some (.agg #[.string ByteArray.empty,.string ByteArray.empty]),2,32):=by kernel_rfl
theorem eNt:kJ Tryz.prog 33 74 2 32 cNt where
 und:=Tryz.underlying33
 info:=by
  obtain⟨i0,hi0,hz0,hs0,hy0⟩:=info_parts info_nt
  exact⟨i0,_,hi0,hz0,hs0,hy0,rfl⟩
 pos:=by decide
 few:=by decide
 len _:=rfl
 one:=by
  intro x u hu
  simp only[cNt,List.mem_cons,List.not_mem_nil,or_false]at hu
  rcases hu with rfl|rfl<;>rfl
def cI1 (x:Int):List Value:=[.int .i64 x]
section
variable {α:Type} {cell:α→List Value} {k:Nat} {w w':World} {x:Value} {l:List α}
def mA (cell:α→List Value) (k:Nat) (w:World) (x:Value) (l:List α):Prop:=
 ∃ a c,x= .slice a l.length c∧l.length≤c∧c≤9223372036854775807∧(a=none→c=0)∧
  (l=[]∨∃ b off,a=some ⟨b,off,none⟩∧b<w.heap.size∧∀ i (hi:i<l.length) j u,(cell l[i])[j]?=some u→w.cell? ⟨b,off+i*k+j,none⟩=some u)
theorem mA.nil (w:World):mA cell k w (.slice none 0 0) ([]:List α):=⟨none,0,rfl,Nat.le_refl _,by omega,fun _=>rfl,.inl rfl⟩
theorem mA.tn {F:Nat→Prop} (h:mA cell k w x l) (ht:Tn F w w') (hF:∀ q,q<w.heap.size→¬ F q):mA cell k w' x l:=by
 obtain⟨a,c,h1,h2,h3,h4,h5⟩:=h
 refine⟨a,c,h1,h2,h3,h4,h5.imp id ?_⟩
 rintro⟨b,off,ha,hlt,hc⟩
 exact⟨b,off,ha,Nat.lt_of_lt_of_le hlt ht.size,fun i hi j u hu=>ht.cell (hc i hi j u hu) (hF b hlt)⟩
theorem mA.below (h:mA cell k w x l) (hb:Below w.heap.size w w'):mA cell k w' x l:=h.tn (Tn.ofBelow (F:=fun _=>False) hb) (fun _ _ e=>e)
theorem mA.form (h:mA cell k w x l):∃ a c,x= .slice a l.length c∧l.length≤c∧c≤9223372036854775807:=by
 obtain⟨a,c,h1,h2,h3,_⟩:=h
 exact⟨a,c,h1,h2,h3⟩
theorem mA.at_ {a:Option Addr} {n c:Nat} (h:mA cell k w (.slice a n c) l) {i:Nat} (hi:i<l.length):∃ b off,a=some ⟨b,off,none⟩∧b<w.heap.size∧n=l.length∧n≤c∧c≤9223372036854775807∧∀ j u,(cell l[i])[j]?=some u→w.cell? ⟨b,off+i*k+j,none⟩=some u:=by
 obtain⟨a',c',h1,h2,h3,_,h5⟩:=h
 injection h1 with q1 q2 q3
 subst q1 q2 q3
 obtain⟨b,off,ha,hlt,hc⟩:=h5.resolve_left (fun e=>by rw[e]at hi;simp at hi)
 exact⟨b,off,ha,hlt,rfl,h2,h3,hc i hi⟩
variable {P:Program} {T E:TypeId} {by_ B:Nat} {e:kJ P T E k by_ cell}
theorem bE.rda (h:bE e w B x l):mA cell k w x l:=by
 have h0:=h
 obtain⟨h1,h2⟩:=h
 rcases h2 with⟨rfl,h3⟩|⟨g,cap,cur,rfl,hg,hh,hn,hc,hcl,htk⟩
 · obtain rfl:=List.eq_nil_of_length_eq_zero h3
   exact mA.nil w
 · refine⟨_,cap,rfl,hn,by unfold maxLen at hc;omega,(fun e=>by cases e),?_⟩
   by_cases hl:l=[]
   · exact .inl hl
   · refine .inr ⟨g,0,rfl,(h0.lt g rfl).2,fun i hi j u hu=>?_⟩
     have hjk:j<k:=by rw[← e.len l[i]];exact(List.getElem?_eq_some_iff.1 hu).1
     have hlt:i*k+j<l.length*k:=by
      have:=Nat.mul_le_mul_right k (show i+1≤l.length from hi)
      rw[Nat.add_mul,Nat.one_mul]at this
      omega
     have:=h0.cellAt (i*k+j) hlt
     rw[Nat.zero_add,this,e.get l i j hi hjk]
     exact hu
theorem mA.src (e:kJ P T E k by_ cell) (h:mA cell k w x l):Src e w x l:=by
 obtain⟨a,c,rfl,h2,h3,h4,h5⟩:=h
 rcases h5 with rfl|⟨b,off,rfl,hlt,hc⟩
 · cases a with
   |none=>rw[h4 rfl];exact .inl ⟨rfl,rfl⟩
   |some ad=>exact .inr ⟨ad,c,rfl,fun j u hj=>by simp at hj⟩
 · refine .inr ⟨_,c,rfl,fun j u hj=>?_⟩
   rw[lY]
   have hlen:=e.lens l
   have hjl:j<l.length*k:=by
    rw[← hlen]
    exact(List.getElem?_eq_some_iff.1 hj).1
   have hk0:=e.pos
   have hi:j/k<l.length:=(Nat.div_lt_iff_lt_mul hk0).2 hjl
   have hr:=Nat.mod_lt j hk0
   have hg:=e.get l (j/k) (j%k) hi hr
   have hdm:j/k*k+j%k=j:=by rw[Nat.mul_comm];exact Nat.div_add_mod j k
   rw[hdm]at hg
   rw[hg]at hj
   have:=hc (j/k) hi (j%k) u hj
   rwa [Nat.add_assoc,hdm]at this
end
abbrev RdF:=mA Fi.cells 6
abbrev RdN:=mA cNt 2
abbrev RdZ:=mA cI1 1
def StV (w:World) (v:Value) (s:PS):Prop:=∃ fv lv nv,v= .agg #[fv,.int .i64 s.next,.int .i64 s.log,lv,nv]∧RdF w fv s.fs∧RdZ w lv s.fl∧RdN w nv s.ns
def EdV (w:World) (v:Value) (e:PE):Prop:=∃ av rv lv nv,v= .agg #[av,rv,.int .i64 e.log,lv,nv]∧RdF w av e.add∧RdZ w rv e.rem∧RdZ w lv e.fl∧RdN w nv e.ns
theorem StV.below {w w':World} {v:Value} {s:PS} (h:StV w v s) (hb:Below w.heap.size w w'):StV w' v s:=by
 obtain⟨fv,lv,nv,rfl,h1,h2,h3⟩:=h
 exact⟨fv,lv,nv,rfl,h1.below hb,h2.below hb,h3.below hb⟩
theorem EdV.below {w w':World} {v:Value} {e:PE} (h:EdV w v e) (hb:Below w.heap.size w w'):EdV w' v e:=by
 obtain⟨av,rv,lv,nv,rfl,h1,h2,h3,h4⟩:=h
 exact⟨av,rv,lv,nv,rfl,h1.below hb,h2.below hb,h3.below hb,h4.below hb⟩
end
section
open Go.RowKit
instance:Inhabited Fi:=⟨⟨0,0,0,0,ByteArray.empty,ByteArray.empty⟩⟩
theorem bS (a b:ByteArray) (w:World):Calls Tryz.prog 67 #[.string a,.string b] w fun e w'=>e= .returned (.int .i64 (kc a b))∧w'=w:=by
 go_enter Tryz.func67,Tryz.ntmps67
 go_wp2_with (go_at_call 174;refine(Tryz.strings_Compare _ _ _).mono ?_;rintro e w' ⟨rfl,rfl⟩)
 go_ret
 exact⟨rfl,rfl⟩
theorem bG {n lo hi:Int} {b:Bool} (h:inI n lo hi=b) (w:World):Calls Tryz.prog 267 #[.int .i64 n,.int .i64 lo,.int .i64 hi] w fun e w'=>e= .returned (.bool b)∧w=w':=by
 unfold inI at h
 subst h
 by_cases h1:lo≤n
 · by_cases h2:n≤hi
   · go_enter Tryz.func267,Tryz.ntmps267
     rw[show decide (lo≤n∧n≤hi)=true from decide_eq_true ⟨h1,h2⟩]
     go_wp2
     go_ret
     exact⟨rfl,rfl⟩
   · go_enter Tryz.func267,Tryz.ntmps267
     rw[show decide (lo≤n∧n≤hi)=false from decide_eq_false (fun h=>h2 h.2)]
     go_wp2
     go_ret
     exact⟨rfl,rfl⟩
 · go_enter Tryz.func267,Tryz.ntmps267
   rw[show decide (lo≤n∧n≤hi)=false from decide_eq_false (fun h=>h1 h.1)]
   go_wp2
   go_ret
   exact⟨rfl,rfl⟩
set_option maxRecDepth 100000 in
set_option maxHeartbeats 1000000 in
theorem mvalid_any (x:Fi) (w:World):Calls Tryz.prog 206 #[.agg #[.int .i64 x.lv,.int .i64 x.nu,.int .i64 x.ct,.int .i64 x.sz,.string x.f,.string x.l]] w fun e w'=>e= .returned (.bool (bB x))∧Below w.heap.size w w':=by
 have hb:Below w.heap.size w (w.alloc (.cells #[.int .i64 x.lv,.int .i64 x.nu,.int .i64 x.ct,.int .i64 x.sz,.string x.f,.string x.l] 79)):=(Below.refl _ _).alloc (Nat.le_refl _) _
 have HB:=aB hb
 clear hb
 go_enter Tryz.func206,Tryz.ntmps206
 cases h1:inI x.lv 0 6 with
 |false=>
  have hv:bB x=false:=by unfold bB;rw[h1];simp
  rw[hv]
  clear hv
  go_wp2_with (first|(go_at_call 267;with_reducible refine(bG h1 _).mono ?_;rintro e w' ⟨rfl,rfl⟩))
  go_ret
  exact⟨rfl,HB.out⟩
 |true=>
  cases h2:inI x.nu 1 2147483647 with
  |false=>
   have hv:bB x=false:=by unfold bB;rw[h2];simp
   rw[hv]
   clear hv
   go_wp2_with (first|(go_at_call 267;with_reducible refine(bG h2 _).mono ?_;rintro e w' ⟨rfl,rfl⟩)|(go_at_call 267;with_reducible refine(bG h1 _).mono ?_;rintro e w' ⟨rfl,rfl⟩))
   go_ret
   exact⟨rfl,HB.out⟩
  |true=>
   cases h3:inI x.ct 1 2147483647 with
   |false=>
    have hv:bB x=false:=by unfold bB;rw[h3];simp
    rw[hv]
    clear hv
    go_wp2_with (first|(go_at_call 267;with_reducible refine(bG h3 _).mono ?_;rintro e w' ⟨rfl,rfl⟩)|(go_at_call 267;with_reducible refine(bG h2 _).mono ?_;rintro e w' ⟨rfl,rfl⟩)|(go_at_call 267;with_reducible refine(bG h1 _).mono ?_;rintro e w' ⟨rfl,rfl⟩))
    go_ret
    exact⟨rfl,HB.out⟩
   |true=>
    cases h4:inI x.sz 0 2147483647 with
    |false=>
     have hv:bB x=false:=by unfold bB;rw[h4];simp
     rw[hv]
     clear hv
     go_wp2_with (first|(go_at_call 267;with_reducible refine(bG h4 _).mono ?_;rintro e w' ⟨rfl,rfl⟩)|(go_at_call 267;with_reducible refine(bG h3 _).mono ?_;rintro e w' ⟨rfl,rfl⟩)|(go_at_call 267;with_reducible refine(bG h2 _).mono ?_;rintro e w' ⟨rfl,rfl⟩)|(go_at_call 267;with_reducible refine(bG h1 _).mono ?_;rintro e w' ⟨rfl,rfl⟩))
     go_ret
     exact⟨rfl,HB.out⟩
    |true=>
     cases h5:inI (x.f.size:Int) 1 500 with
     |false=>
      have hv:bB x=false:=by unfold bB;rw[h5];simp
      rw[hv]
      clear hv
      go_wp2_with (first|(go_at_call 267;with_reducible refine(bG h5 _).mono ?_;rintro e w' ⟨rfl,rfl⟩)|(go_at_call 267;with_reducible refine(bG h4 _).mono ?_;rintro e w' ⟨rfl,rfl⟩)|(go_at_call 267;with_reducible refine(bG h3 _).mono ?_;rintro e w' ⟨rfl,rfl⟩)|(go_at_call 267;with_reducible refine(bG h2 _).mono ?_;rintro e w' ⟨rfl,rfl⟩)|(go_at_call 267;with_reducible refine(bG h1 _).mono ?_;rintro e w' ⟨rfl,rfl⟩))
      go_ret
      exact⟨rfl,HB.out⟩
     |true=>
      cases h6:inI (x.l.size:Int) 1 500 with
      |false=>
       have hv:bB x=false:=by unfold bB;rw[h6];simp
       rw[hv]
       clear hv
       go_wp2_with (first|(go_at_call 267;with_reducible refine(bG h6 _).mono ?_;rintro e w' ⟨rfl,rfl⟩)|(go_at_call 267;with_reducible refine(bG h5 _).mono ?_;rintro e w' ⟨rfl,rfl⟩)|(go_at_call 267;with_reducible refine(bG h4 _).mono ?_;rintro e w' ⟨rfl,rfl⟩)|(go_at_call 267;with_reducible refine(bG h3 _).mono ?_;rintro e w' ⟨rfl,rfl⟩)|(go_at_call 267;with_reducible refine(bG h2 _).mono ?_;rintro e w' ⟨rfl,rfl⟩)|(go_at_call 267;with_reducible refine(bG h1 _).mono ?_;rintro e w' ⟨rfl,rfl⟩))
       go_ret
       exact⟨rfl,HB.out⟩
      |true=>
       by_cases hk:kc x.f x.l≤0
       · have hv:bB x=true:=by unfold bB;rw[h1,h2,h3,h4,h5,h6,decide_eq_true hk];rfl
         rw[hv]
         clear hv
         go_wp2_with (first|(go_at_call 67;refine(bS _ _ _).mono ?_;rintro e w' ⟨rfl,rfl⟩)|(go_at_call 267;with_reducible refine(bG h6 _).mono ?_;rintro e w' ⟨rfl,rfl⟩)|(go_at_call 267;with_reducible refine(bG h5 _).mono ?_;rintro e w' ⟨rfl,rfl⟩)|(go_at_call 267;with_reducible refine(bG h4 _).mono ?_;rintro e w' ⟨rfl,rfl⟩)|(go_at_call 267;with_reducible refine(bG h3 _).mono ?_;rintro e w' ⟨rfl,rfl⟩)|(go_at_call 267;with_reducible refine(bG h2 _).mono ?_;rintro e w' ⟨rfl,rfl⟩)|(go_at_call 267;with_reducible refine(bG h1 _).mono ?_;rintro e w' ⟨rfl,rfl⟩))
         go_ret
         exact⟨rfl,HB.out⟩
       · have hv:bB x=false:=by unfold bB;rw[h1,h2,h3,h4,h5,h6,decide_eq_false hk];rfl
         rw[hv]
         clear hv
         go_wp2_with (first|(go_at_call 67;refine(bS _ _ _).mono ?_;rintro e w' ⟨rfl,rfl⟩)|(go_at_call 267;with_reducible refine(bG h6 _).mono ?_;rintro e w' ⟨rfl,rfl⟩)|(go_at_call 267;with_reducible refine(bG h5 _).mono ?_;rintro e w' ⟨rfl,rfl⟩)|(go_at_call 267;with_reducible refine(bG h4 _).mono ?_;rintro e w' ⟨rfl,rfl⟩)|(go_at_call 267;with_reducible refine(bG h3 _).mono ?_;rintro e w' ⟨rfl,rfl⟩)|(go_at_call 267;with_reducible refine(bG h2 _).mono ?_;rintro e w' ⟨rfl,rfl⟩)|(go_at_call 267;with_reducible refine(bG h1 _).mono ?_;rintro e w' ⟨rfl,rfl⟩))
         go_ret
         exact⟨(by show Ending.returned (.bool (decide (kc x.f x.l≤0)))=_;rw[decide_eq_false (by omega)]),HB.out⟩
end
section
open Go.RowKit
theorem right1_any (x:Fi) (w:World):Calls Tryz.prog 205 #[.agg (Fi.cells x).toArray] w fun e w'=>e= .returned (.bool (!bB x))∧Below w.heap.size w w':=by
 show Calls Tryz.prog 205 #[.agg #[.int .i64 x.lv,.int .i64 x.nu,.int .i64 x.ct,.int .i64 x.sz,.string x.f,.string x.l]] w _
 go_enter Tryz.func205,Tryz.ntmps205
 go_wp2_with (go_at_call 206;refine(mvalid_any x _).mono ?_;rintro e w2 ⟨rfl,hb⟩;have HB:=aB hb;clear hb)
 go_ret
 exact⟨rfl,((Below.refl _ _).alloc (Nat.le_refl _) _).trans (HB.out.mono (by simp))⟩
theorem jX {s:ByteArray} (h:s.size=0):s.toList.isEmpty=true:=by
 rw[ByteArray.toList_eq,List.isEmpty_iff]
 exact List.eq_nil_of_length_eq_zero (show s.data.toList.length=0 from by rw[Array.length_toList];exact h)
theorem emp_no {s:ByteArray} (h:s.size≠0):s.toList.isEmpty=false:=by
 rw[ByteArray.toList_eq,Bool.eq_false_iff]
 intro e
 have h2:=congrArg List.length (List.isEmpty_iff.1 e)
 simp only[Array.length_toList,List.length_nil]at h2
 exact h h2
theorem right2_any (p:KV) (w:World):Calls Tryz.prog 209 #[.agg (cNt p).toArray] w fun e w'=>e= .returned (.bool (!dB p))∧Below w.heap.size w w':=by
 show Calls Tryz.prog 209 #[.agg #[.string p.1,.string p.2]] w _
 have hb:Below w.heap.size w (w.alloc (.cells #[.string p.1,.string p.2] 74)):=(Below.refl _ _).alloc (Nat.le_refl _) _
 have HB:=aB hb
 clear hb
 by_cases h1:p.1.size=0
 · have s1:=jX h1
   have hn:dB p=false:=by unfold dB;simp[h1]
   rw[hn]
   clear hn
   go_enter Tryz.func209,Tryz.ntmps209
   go_wp2
   go_ret
   exact⟨rfl,HB.out⟩
 · have s1:=emp_no h1
   by_cases h2:p.1.size≤32
   · have z2:¬ (32:Int)<(p.1.size:Int):=by omega
     by_cases h3:p.2.size≤20000
     · have z3:¬ (20000:Int)<(p.2.size:Int):=by omega
       have hn:dB p=true:=by unfold dB;simp[h1,h2,h3]
       rw[hn]
       clear hn
       go_enter Tryz.func209,Tryz.ntmps209
       go_wp2
       go_ret
       exact⟨rfl,HB.out⟩
     · have z3:(20000:Int)<(p.2.size:Int):=by omega
       have hn:dB p=false:=by unfold dB;simp[h3]
       rw[hn]
       clear hn
       go_enter Tryz.func209,Tryz.ntmps209
       go_wp2
       go_ret
       exact⟨rfl,HB.out⟩
   · have z2:(32:Int)<(p.1.size:Int):=by omega
     have hn:dB p=false:=by unfold dB;simp[h2]
     rw[hn]
     clear hn
     go_enter Tryz.func209,Tryz.ntmps209
     go_wp2
     go_ret
     exact⟨rfl,HB.out⟩
end
end Go.Proofs.YtpfibkgmfapnjaaGreatDoor
