/- Manifest, plain: files, notes, edits, and the state behind an edit. Of no program. -/
import Derived.Test.YtpfibkgmfapnjaaGreatDoorS1
import Derived.Sort.Statements
set_option linter.unusedSimpArgs false
set_option linter.unusedVariables false
namespace Go.Proofs.YtpfibkgmfapnjaaGreatDoor
section
open Go.Lib
def kc (a b:ByteArray):Int:=compareBytes a.data.toList b.data.toList
theorem kc_self (a:ByteArray):kc a a=0:=cmp_self _
theorem fS (a b:ByteArray):kc b a= -kc a b:=cmp_neg _ _
theorem kc_zero {a b:ByteArray} (h:kc a b=0):a=b:=by
 cases a with|mk a=>cases b with|mk b=>
 have:a=b:=Array.toList_inj.1 (cmp_zero _ _ h)
 rw[this]
theorem kc_trans {a b c:ByteArray} (h1:kc a b≤0) (h2:kc b c≤0):kc a c≤0∧(kc a b<0∨kc b c<0→kc a c<0):=cmp_trans _ _ _ h1 h2
theorem jF (a b:ByteArray):kc a b=0↔a=b:=⟨kc_zero,fun h=>by rw[h];exact kc_self _⟩
theorem kc_lt_trans {a b c:ByteArray} (h1:kc a b<0) (h2:kc b c<0):kc a c<0:=(kc_trans (by omega) (by omega)).2 (.inl h1)
theorem jN {α:Type} {R:α→α→Prop} (hi:∀ a,¬ R a a) (ha:∀ a b,R a b→¬ R b a):∀ {a b:List α},a.Pairwise R→b.Pairwise R→(∀ q,q∈a↔q∈b)→a=b
 |[],[],_,_,_=>rfl
 |[],y::b,_,_,h=>by have:=(h y).2 (by simp);simp at this
 |x::a,[],_,_,h=>by have:=(h x).1 (by simp);simp at this
 |x::a,y::b,h1,h2,h=>by
  obtain⟨a1,a2⟩:=List.pairwise_cons.1 h1
  obtain⟨b1,b2⟩:=List.pairwise_cons.1 h2
  have hxy:x=y:=by
   rcases List.mem_cons.1 ((h x).1 (by simp))with e|e
   · exact e
   · rcases List.mem_cons.1 ((h y).2 (by simp))with e2|e2
     · exact e2.symm
     · exact absurd (a1 y e2) (ha _ _ (b1 x e))
  subst hxy
  rw[jN hi ha a2 b2 (fun q=>?_)]
  constructor
  · intro hq
    rcases List.mem_cons.1 ((h q).1 (List.mem_cons_of_mem _ hq))with e|e
    · subst e;exact absurd (a1 q hq) (hi q)
    · exact e
  · intro hq
    rcases List.mem_cons.1 ((h q).2 (List.mem_cons_of_mem _ hq))with e|e
    · subst e;exact absurd (b1 q hq) (hi q)
    · exact e
structure Fi where
 lv:Int
 nu:Int
 ct:Int
 sz:Int
 f:ByteArray
 l:ByteArray
def Fi.cells (x:Fi):List Value:=[.int .i64 x.lv,.int .i64 x.nu,.int .i64 x.ct,.int .i64 x.sz,.string x.f,.string x.l]
def Fi.val (x:Fi):Value:= .agg #[.int .i64 x.lv,.int .i64 x.nu,.int .i64 x.ct,.int .i64 x.sz,.string x.f,.string x.l]
def cI (a b:Int):Int:=if a<b then -1 else if b<a then 1 else 0
def orI (x y:Int):Int:=if x≠0 then x else y
def ordF (a b:Fi):Int:=if a.lv=0∧b.lv=0 then cI a.nu b.nu else orI (cI a.lv b.lv) (kc a.f b.f)
def cfF (a b:Fi):Int:=orI (ordF a b) (cI a.nu b.nu)
def iP (a b:Fi):Prop:=a.lv<b.lv∨(a.lv=b.lv∧((a.lv=0∧a.nu<b.nu)∨(a.lv≠0∧(kc a.f b.f<0∨(a.f=b.f∧a.nu<b.nu)))))
theorem eO (a b:Fi):cfF a b<0↔iP a b:=by
 have hz:=jF a.f b.f
 unfold cfF ordF iP orI cI
 by_cases h0:a.lv=0∧b.lv=0
 · rw[if_pos h0]
   repeat' split
   all_goals omega
 · rw[if_neg h0]
   by_cases h1:a.lv<b.lv
   · simp only[h1,if_true]
     simp
   · by_cases h2:b.lv<a.lv
     · simp only[h1,h2,if_true,if_false]
       simp
       omega
     · have h3:a.lv=b.lv:=by omega
       have h4:a.lv≠0:=by omega
       simp only[h1,h2,if_false]
       by_cases h5:kc a.f b.f=0
       · have h6:=hz.1 h5
         simp only[h5]
         repeat' split
         all_goals simp_all
         all_goals omega
       · have h6:a.f≠b.f:=fun e=>h5 (hz.2 e)
         simp_all
theorem iP.irrefl (a:Fi):¬ iP a a:=by
 unfold iP
 rw[kc_self]
 omega
theorem iP.trans {a b c:Fi} (h1:iP a b) (h2:iP b c):iP a c:=by
 unfold iP at*
 rcases h1 with h1|⟨e1,h1⟩<;>rcases h2 with h2|⟨e2,h2⟩
 · left;omega
 · left;omega
 · left;omega
 · right
   refine⟨by omega,?_⟩
   rcases h1 with h1|⟨n1,h1⟩<;>rcases h2 with h2|⟨n2,h2⟩
   · left;omega
   · omega
   · omega
   · right
     refine⟨n1,?_⟩
     rcases h1 with h1|⟨f1,h1⟩<;>rcases h2 with h2|⟨f2,h2⟩
     · exact .inl (kc_lt_trans h1 h2)
     · exact .inl (by rw[← f2];exact h1)
     · exact .inl (by rw[f1];exact h2)
     · exact .inr ⟨f1.trans f2,by omega⟩
theorem iP.total {a b:Fi} (h1:¬ iP a b) (h2:¬ iP b a):a.nu=b.nu∧a.lv=b.lv:=by
 have e1:a.lv=b.lv:=by
  rcases Int.lt_trichotomy a.lv b.lv with h|h|h
  · exact absurd (.inl h) h1
  · exact h
  · exact absurd (.inl h) h2
 refine⟨?_,e1⟩
 by_cases h0:a.lv=0
 · rcases Int.lt_trichotomy a.nu b.nu with h|h|h
   · exact absurd (.inr ⟨e1,.inl ⟨h0,h⟩⟩) h1
   · exact h
   · exact absurd (.inr ⟨e1.symm,.inl ⟨by omega,h⟩⟩) h2
 · rcases Int.lt_trichotomy (kc a.f b.f) 0 with h|h|h
   · exact absurd (.inr ⟨e1,.inr ⟨h0,.inl h⟩⟩) h1
   · have hf:=kc_zero h
     rcases Int.lt_trichotomy a.nu b.nu with k|k|k
     · exact absurd (.inr ⟨e1,.inr ⟨h0,.inr ⟨hf,k⟩⟩⟩) h1
     · exact k
     · exact absurd (.inr ⟨e1.symm,.inr ⟨by omega,.inr ⟨hf.symm,k⟩⟩⟩) h2
   · exact absurd (.inr ⟨e1.symm,.inr ⟨by omega,.inl (by rw[fS];omega)⟩⟩) h2
theorem iP.asymm {a b:Fi} (h1:iP a b):¬ iP b a:=fun h2=>iP.irrefl a (h1.trans h2)
theorem iP.ntrans {a b c:Fi} (h1:¬ iP a b) (h2:¬ iP b c):¬ iP a c:=by
 intro h
 have k1:iP b a∨¬ iP b a:=Classical.em _
 rcases k1 with k1|k1
 · exact h2 (k1.trans h)
 · -- a and b are alike
   have hab:=iP.total h1 k1
   apply h2
   unfold iP at*
   have hz:=jF a.f b.f
   rw[fS a.f b.f]at k1
   by_cases h0:a.lv=0
   · rcases h with h|⟨e,h|h⟩
     · left;omega
     · right;exact⟨by omega,.inl (by omega)⟩
     · omega
   · have hf:a.f=b.f:=by
      apply hz.1
      omega
     rw[← hf,←hab.1,←hab.2]
     exact h
theorem swoF:Go.Sort.SWO (fun a b:Fi=>decide (cfF a b<0)):=by
 refine⟨fun a=>?_,fun a b c h1 h2=>?_,fun a b c h1 h2=>?_⟩
 · exact decide_eq_false (fun h=>iP.irrefl a ((eO a a).1 h))
 · exact decide_eq_true ((eO a c).2 (((eO a b).1 (of_decide_eq_true h1)).trans ((eO b c).1 (of_decide_eq_true h2))))
 · exact decide_eq_false (fun h=>iP.ntrans (fun k=>of_decide_eq_false h1 ((eO a b).2 k)) (fun k=>of_decide_eq_false h2 ((eO b c).2 k)) ((eO a c).1 h))
def eP (l:List Fi):Prop:=(l.map (·.nu)).Nodup
def SrtF (l:List Fi):Prop:=l.Pairwise iP
abbrev KV:=ByteArray×ByteArray
def LtN (a b:KV):Prop:=kc a.1 b.1<0
theorem LtN.irrefl (a:KV):¬ LtN a a:=by
 unfold LtN
 rw[kc_self]
 omega
theorem LtN.asymm {a b:KV} (h:LtN a b):¬ LtN b a:=by
 unfold LtN at*
 rw[fS]
 omega
theorem swoN:Go.Sort.SWO (fun a b:KV=>decide (kc a.1 b.1<0)):=by
 refine⟨fun a=>?_,fun a b c h1 h2=>?_,fun a b c h1 h2=>?_⟩
 · exact decide_eq_false (LtN.irrefl a)
 · exact decide_eq_true (kc_lt_trans (of_decide_eq_true h1) (of_decide_eq_true h2))
 · have k1:=of_decide_eq_false h1
   have k2:=of_decide_eq_false h2
   refine decide_eq_false (fun h=>?_)
   have g1:kc b.1 a.1≤0:=by rw[fS];omega
   have g2:kc c.1 b.1≤0:=by rw[fS];omega
   have g3:=(kc_trans g2 g1).1
   rw[fS]at g3
   omega
def SrtN (l:List KV):Prop:=l.Pairwise LtN
section
variable {K V:Type} [DecidableEq K]
end
end
section
open Go.RowKit Go.Lib
structure Fl where
 data:ByteArray
 syn:Nat
abbrev Fm:=List (ByteArray×Fl)
def kW (s:ByteArray):Value:= .string s
def cvF (f:Fl):Value:= .agg #[.string f.data,.int .i64 (f.syn:Int)]
structure Fz where
 n:Nat
 cuts:List Int
 flip:Int
structure Dk where
 m:Fm
 on:Bool
 quota:Int
 fuse:Option Fz
 acts:Nat
def okc (c:UInt8):Bool:=(97≤c&&c≤122)||(48≤c&&c≤57)||c=46||c=45||c=95||c=47
def dG (s:ByteArray):Bool:=s.size≠0&&s.size≤64&&s.data.toList.all okc
def Dk.asked (D:Dk) (l:List ByteArray):Int:=if !D.on then 20 else if l.all dG then 0 else 21
def iE (a b:ByteArray):Bool:=compareBytes a.data.toList b.data.toList≤0
def insB (a:ByteArray):List ByteArray→List ByteArray
 |[]=>[a]
 |b::l=>if iE a b then a::b::l else b::insB a l
def fJ (l:List ByteArray):List ByteArray:=l.foldr insB []
def Dk.names (D:Dk):List ByteArray:=fJ (D.m.map (·.1))
def cutAt (cuts:List Int) (i:Nat):Int:=if cuts.length=0 then 0 else cuts.getD (i%cuts.length) 0
def keep (f:Fl) (cut:Int):Nat:=min cut.toNat (f.data.size - f.syn)
def iN (l:List UInt8) (flip:Int):List UInt8:=l.set (l.length - 1) (l.getD (l.length - 1) 0 ^^^ UInt8.ofNat flip.toNat)
def kept (f:Fl) (cut flip:Int):List UInt8:=
 let l:=f.data.data.toList.take (f.syn+keep f cut)
 if 0<keep f cut∧1≤flip∧flip≤255 then iN l flip else l
def bJ (f:Fl) (cut flip:Int):Fl:=⟨⟨(kept f cut flip).toArray⟩,(kept f cut flip).length⟩
def bV (cuts:List Int) (flip:Int):List ByteArray→Nat→Fm→Fm
 |[],_,m=>m
 |a::l,i,m=>bV cuts flip l (i+1) (match aH m a with|some f=>aG m a (bJ f (cutAt cuts i) flip)|none=>m)
def Dk.crash (D:Dk) (cuts:List Int) (flip:Int):Dk:=if D.on then {D with m:=bV cuts flip D.names 0 D.m,on:=false} else D
def Dk.act (D:Dk) (f:Fm→Fm):Int×Dk:=
 match D.fuse with
 |none=>(0,{D with m:=f D.m,acts:=D.acts+1})
 |some ⟨0,cuts,flip⟩=>(20,Dk.crash {D with fuse:=none} cuts flip)
 |some ⟨n+1,cuts,flip⟩=>(0,{D with m:=f D.m,fuse:=some ⟨n,cuts,flip⟩,acts:=D.acts+1})
def Dk.create (D:Dk) (s:ByteArray):Int×Dk:=
 if D.asked [s]≠0 then(D.asked [s],D)else if(aH D.m s).isSome then(23,D)else if 20000≤D.m.length then(24,D)else D.act (fun m=>aG m s ⟨ByteArray.empty,0⟩)
def used (m:Fm):Nat:=(m.map (fun p=>p.2.data.size)).sum
def Dk.app (D:Dk) (s data:ByteArray):Int×Dk:=
 if D.asked [s]≠0 then(D.asked [s],D)else match aH D.m s with
 |none=>(22,D)
 |some f=>if 1048576<f.data.size+data.size then(2,D)else if 0≤D.quota∧data.size≠0∧D.quota<(used D.m:Int)+data.size then(24,D)else D.act (fun m=>aG m s ⟨f.data++data,f.syn⟩)
def Dk.sync (D:Dk) (s:ByteArray):Int×Dk:=
 if D.asked [s]≠0 then(D.asked [s],D)else match aH D.m s with
 |none=>(22,D)
 |some f=>D.act (fun m=>aG m s ⟨f.data,f.data.size⟩)
def Dk.rename (D:Dk) (s t:ByteArray):Int×Dk:=
 if D.asked [s,t]≠0 then(D.asked [s,t],D)else match aH D.m s with
 |none=>(22,D)
 |some f=>D.act (fun m=>aG (aW m s) t f)
def Dk.remove (D:Dk) (s:ByteArray):Int×Dk:=
 if D.asked [s]≠0 then(D.asked [s],D)else match aH D.m s with
 |none=>(22,D)
 |some _=>D.act (fun m=>aW m s)
def Dk.read (D:Dk) (s:ByteArray):ByteArray×Int:=
 if D.asked [s]≠0 then(ByteArray.empty,D.asked [s])else match aH D.m s with
 |none=>(ByteArray.empty,22)
 |some f=>(f.data,0)
def Dk.list (D:Dk) (p:ByteArray):List ByteArray:=if D.on then D.names.filter (fun s=>p.data.toList.isPrefixOf s.data.toList)else[]
def Dk.restore (D:Dk):Dk:={D with on:=true}
def Dk.setQuota (D:Dk) (n:Int):Dk:={D with quota:=max n (-1)}
def Dk.setFuse (D:Dk) (n:Int) (cuts:List Int) (flip:Int):Dk:={D with fuse:=if 0≤n then some ⟨n.toNat,cuts,flip⟩else none}
structure Dk.Ok (D:Dk):Prop where
 nam:∀ p∈D.m,p.1.size≤64
 syn:∀ p∈D.m,p.2.syn≤p.2.data.size∧p.2.data.size≤1048576
 few:D.m.length≤20000
 acts:D.acts≤1000000
 quota: -1≤D.quota∧D.quota≤9223372036854775807
 fuse:∀ z,D.fuse=some z→z.n≤9223372036854775807∧z.cuts.length≤1000000
theorem cG {K V:Type} [DecidableEq K] {m:List (K×V)} {a:K} {v:V} (h:aH m a=some v):(a,v)∈m:=by
 unfold aH at h
 obtain⟨p,hp,rfl⟩:=Option.map_eq_some_iff.1 h
 have h1:=List.find?_some hp
 have h2:=List.mem_of_find?_eq_some hp
 obtain rfl:p.1=a:=by simpa using h1
 exact h2
theorem fC {K V:Type} [DecidableEq K] {m:List (K×V)} {a:K} {v:V} {p:K×V} (h:p∈aG m a v):p=(a,v)∨p∈m:=by
 unfold aG at h
 split at h
 · obtain⟨q,hq,rfl⟩:=List.mem_map.1 h
   split
   · exact .inl rfl
   · exact .inr hq
 · rcases List.mem_append.1 h with h|h
   · exact .inr h
   · exact .inl (List.mem_singleton.1 h)
theorem gW {K V:Type} [DecidableEq K] {m:List (K×V)} {a:K} {p:K×V} (h:p∈aW m a):p∈m:=(List.mem_filter.1 h).1
theorem cA {K V:Type} [DecidableEq K] {m:List (K×V)} {a:K} {v:V}:(aG m a v).length≤m.length+1∧((aH m a).isSome=true→(aG m a v).length=m.length):=by
 unfold aG
 split
 · simp
 · rename_i h
   refine⟨by simp,fun h2=>?_⟩
   obtain⟨u,hu⟩:=Option.isSome_iff_exists.1 h2
   exact absurd (List.any_eq_true.2 ⟨_,cG hu,by simp⟩) h
theorem jU {K V:Type} [DecidableEq K] (m:List (K×V)) (a b:K) (v:V):aH (aG m a v) b=if a=b then some v else aH m b:=by
 unfold aG
 split
 · rename_i h
   induction m with
   |nil=>simp at h
   |cons p m ih=>
    rw[List.map_cons]
    by_cases hp:p.1=a
    · rw[if_pos hp]
      by_cases hab:a=b
      · simp[aH,hab]
      · rw[if_neg hab]
        have hpb:p.1≠b:=fun e=>hab (hp.symm.trans e)
        simp only[aH,List.find?_cons,hab,hpb,decide_false]
        by_cases h2:m.any (fun p=>decide (p.1=a))=true
        · have:=ih h2
          rw[if_neg hab]at this
          exact this
        · have:m.map (fun p=>if p.1=a then(a,v)else p)=m:=by
           conv=>rhs;rw[← List.map_id m]
           refine List.map_congr_left (fun q hq=>?_)
           have:q.1≠a:=fun e=>h2 (List.any_eq_true.2 ⟨q,hq,by simpa using e⟩)
           simp[this]
          rw[this]
    · rw[if_neg hp]
      have h2:m.any (fun p=>decide (p.1=a))=true:=by simpa[hp]using h
      by_cases hpb:p.1=b
      · have hab:a≠b:=fun e=>hp (hpb.trans e.symm)
        simp[aH,hpb,hab]
      · have:=ih h2
        simp only[aH,List.find?_cons,hpb,decide_false]at this ⊢
        exact this
 · rename_i h
   by_cases hab:a=b
   · subst hab
     have:m.find? (fun p=>decide (p.1=a))=none:=List.find?_eq_none.2 (fun q hq e=>h (List.any_eq_true.2 ⟨q,hq,e⟩))
     simp[aH,List.find?_append,this]
   · rw[if_neg hab]
     unfold aH
     rw[List.find?_append]
     cases m.find? (fun p=>decide (p.1=b))<;>simp[hab]
theorem get_del {K V:Type} [DecidableEq K] (m:List (K×V)) (a b:K):aH (aW m a) b=if a=b then none else aH m b:=by
 unfold aH aW
 rw[List.find?_filter]
 by_cases hab:a=b
 · subst hab
   rw[if_pos rfl,Option.map_eq_none_iff,List.find?_eq_none]
   intro p _
   by_cases h:p.1=a<;>simp[h]
 · rw[if_neg hab]
   congr 2
   funext p
   by_cases h:p.1=b
   · have:p.1≠a:=fun e=>hab (e.symm.trans h)
     simp[h,Ne.symm hab]
   · simp[h]
theorem keep_le (f:Fl) (cut:Int) (h:f.syn≤f.data.size):f.syn+keep f cut≤f.data.size:=by unfold keep;omega
theorem spoil_len (l:List UInt8) (flip:Int):(iN l flip).length=l.length:=by simp[iN]
theorem insB_perm (a:ByteArray):∀ l,(insB a l).Perm (a::l)
 |[]=> .refl _
 |b::l=>by
  unfold insB
  split
  · exact .refl _
  · exact((insB_perm a l).cons b).trans (.swap a b l)
theorem sortB_perm:∀ l,(fJ l).Perm l
 |[]=> .refl _
 |a::l=>(insB_perm a (fJ l)).trans ((sortB_perm l).cons a)
theorem leqB_total (a b:ByteArray):iE a b=true∨iE b a=true:=by
 have:=cmp_neg a.data.toList b.data.toList
 simp only[iE,decide_eq_true_eq]
 omega
theorem leqB_trans {a b c:ByteArray} (h1:iE a b=true) (h2:iE b c=true):iE a c=true:=by
 simp only[iE,decide_eq_true_eq]at h1 h2 ⊢
 exact(cmp_trans _ _ _ h1 h2).1
theorem leqB_anti {a b:ByteArray} (h1:iE a b=true) (h2:iE b a=true):a=b:=by
 simp only[iE,decide_eq_true_eq]at h1 h2
 have h:=cmp_neg a.data.toList b.data.toList
 have h3:=cmp_zero a.data.toList b.data.toList (by omega)
 cases a with|mk a=>cases b with|mk b=>
 have:a=b:=Array.toList_inj.1 h3
 rw[this]
theorem insB_sorted (a:ByteArray):∀ l:List ByteArray,l.Pairwise (fun x y=>iE x y=true)→(insB a l).Pairwise (fun x y=>iE x y=true)
 |[],_=>by simp[insB]
 |b::l,h=>by
  obtain⟨h1,h2⟩:=List.pairwise_cons.1 h
  unfold insB
  split
  · rename_i hab
    refine List.pairwise_cons.2 ⟨fun x hx=>?_,h⟩
    rcases List.mem_cons.1 hx with rfl|hx
    · exact hab
    · exact leqB_trans hab (h1 x hx)
  · rename_i hab
    refine List.pairwise_cons.2 ⟨fun x hx=>?_,insB_sorted a l h2⟩
    rcases List.mem_cons.1 ((insB_perm a l).mem_iff.1 hx)with rfl|hx
    · exact(leqB_total x b).resolve_left hab
    · exact h1 x hx
theorem sortB_sorted:∀ l,(fJ l).Pairwise (fun x y=>iE x y=true)
 |[]=>List.Pairwise.nil
 |a::l=>insB_sorted a _ (sortB_sorted l)
theorem sorted_unique:∀ {l₁ l₂:List ByteArray},l₁.Perm l₂→l₁.Pairwise (fun x y=>iE x y=true)→l₂.Pairwise (fun x y=>iE x y=true)→l₁=l₂
 |[],l₂,hp,_,_=>(List.nil_perm.1 hp).symm▸rfl
 |a::l,[],hp,_,_=>by have:=hp.length_eq;simp at this
 |a::l,b::r,hp,h1,h2=>by
  obtain⟨a1,a2⟩:=List.pairwise_cons.1 h1
  obtain⟨b1,b2⟩:=List.pairwise_cons.1 h2
  have hab:a=b:=by
   rcases List.mem_cons.1 (hp.mem_iff.1 (List.mem_cons_self))with h|h
   · exact h
   · rcases List.mem_cons.1 (hp.mem_iff.2 (List.mem_cons_self (a:=b) (l:=r)))with h'|h'
     · exact h'.symm
     · exact leqB_anti (a1 b h') (b1 a h)
  subst hab
  rw[sorted_unique ((List.perm_cons a).1 hp) a2 b2]
theorem sortB_eq {l l':List ByteArray} (hp:l'.Perm l) (hs:l'.Pairwise (fun x y=>iE x y=true)):l'=fJ l:=sorted_unique (hp.trans (sortB_perm l).symm) hs (sortB_sorted l)
end
section
open Go.Lib
def cV (l:List Fi):List Fi:=l.mergeSort (fun a b=> !decide (cfF b a<0))
def lF (l:List KV):List KV:=l.mergeSort (fun a b=> !decide (kc b.1 a.1<0))
theorem eC (l:List Fi):(cV l).Perm l:=List.mergeSort_perm _ _
theorem dZ (l:List KV):(lF l).Perm l:=List.mergeSort_perm _ _
theorem srt_of {l:List Fi} (hn:eP l) (h:l.Pairwise (fun a b=>¬ iP b a)):SrtF l:=by
 have h2:l.Pairwise (fun a b=>a.nu≠b.nu):=List.pairwise_map.1 hn
 exact(h.and h2).imp (fun⟨h1,h2⟩=>Classical.byContradiction fun h3=>h2 (iP.total h3 h1).1)
theorem srtN_of {l:List KV} (hn:(l.map (·.1)).Nodup) (h:l.Pairwise (fun a b=>¬ LtN b a)):SrtN l:=by
 have h2:l.Pairwise (fun a b=>a.1≠b.1):=List.pairwise_map.1 hn
 exact(h.and h2).imp (fun {a b} ⟨h1,h2⟩=>by
  unfold LtN at*
  rw[fS]at h1
  have:=jF a.1 b.1
  have h3:kc a.1 b.1≠0:=fun e=>h2 (this.1 e)
  omega)
theorem eP.perm {a b:List Fi} (h:eP a) (hp:b.Perm a):eP b:=(hp.map _).nodup_iff.2 h
theorem kL {l:List Fi} (hn:eP l):SrtF (cV l):=by
 refine srt_of (hn.perm (eC l)) ?_
 have h:=List.pairwise_mergeSort (le:=fun a b:Fi=> !decide (cfF b a<0)) (fun a b c h1 h2=>by
  have k1:=of_decide_eq_false (by simpa using h1:decide (cfF b a<0)=false)
  have k2:=of_decide_eq_false (by simpa using h2:decide (cfF c b<0)=false)
  have:¬ cfF c a<0:=fun h=>iP.ntrans (fun k=>k2 ((eO _ _).2 k)) (fun k=>k1 ((eO _ _).2 k)) ((eO _ _).1 h)
  simpa using this) (fun a b=>by
  by_cases h:cfF b a<0
  · have:¬ cfF a b<0:=fun k=>iP.asymm ((eO _ _).1 h) ((eO _ _).1 k)
    simp[h,this]
  · simp[h]) l
 exact h.imp (fun {a b} hab hlt=>by
  have:=(eO b a).2 hlt
  simp[this]at hab)
theorem jO {l:List KV} (hn:(l.map (·.1)).Nodup):SrtN (lF l):=by
 refine srtN_of (((dZ l).map _).nodup_iff.2 hn) ?_
 have h:=List.pairwise_mergeSort (le:=fun a b:KV=> !decide (kc b.1 a.1<0)) (fun a b c h1 h2=>by
  have k1:=of_decide_eq_false (by simpa using h1:decide (kc b.1 a.1<0)=false)
  have k2:=of_decide_eq_false (by simpa using h2:decide (kc c.1 b.1<0)=false)
  have g1:kc a.1 b.1≤0:=by rw[fS];omega
  have g2:kc b.1 c.1≤0:=by rw[fS];omega
  have g3:=(kc_trans g1 g2).1
  have:¬ kc c.1 a.1<0:=by rw[fS];omega
  simpa using this) (fun a b=>by
  have:=fS a.1 b.1
  by_cases h:kc b.1 a.1<0
  · have:¬ kc a.1 b.1<0:=by omega
    simp[h,this]
  · simp[h]) l
 exact h.imp (fun {a b} hab hlt=>by
  unfold LtN at hlt
  simp[hlt]at hab)
theorem iX {l d:List Fi} (hn:eP l) (hp:d.Perm l) (hd:d.Pairwise (fun a b=>¬ iP b a)):d=cV l:=
 jN iP.irrefl (fun _ _=>iP.asymm) (srt_of (hn.perm hp) hd) (kL hn) (fun _=>(hp.mem_iff).trans (eC l).mem_iff.symm)
theorem sortN_uniq {l d:List KV} (hn:(l.map (·.1)).Nodup) (hp:d.Perm l) (hd:d.Pairwise (fun a b=>¬ LtN b a)):d=lF l:=
 jN LtN.irrefl (fun _ _=>LtN.asymm) (srtN_of ((hp.map _).nodup_iff.2 hn) hd) (jO hn) (fun _=>(hp.mem_iff).trans (dZ l).mem_iff.symm)
theorem sortFi_self {l:List Fi} (hn:eP l) (h:SrtF l):cV l=l:=(iX hn (List.Perm.refl _) (h.imp iP.asymm)).symm
theorem sortFi_congr {a b:List Fi} (hn:eP a) (hp:b.Perm a):cV b=cV a:=
 iX hn ((eC b).trans hp) ((kL (hn.perm hp)).imp iP.asymm)
structure PS where
 fs:List Fi
 next:Int
 log:Int
 fl:List Int
 ns:List KV
structure PE where
 add:List Fi
 rem:List Int
 log:Int
 fl:List Int
 ns:List KV
def s00:PS:=⟨[],0,0,[],[]⟩
def s01:PS:=⟨[],1,0,[],[]⟩
def inI (n least most:Int):Bool:=decide (least≤n∧n≤most)
def bB (x:Fi):Bool:=inI x.lv 0 6&&inI x.nu 1 2147483647&&inI x.ct 1 2147483647&&inI x.sz 0 2147483647&&inI x.f.size 1 500&&inI x.l.size 1 500&&decide (kc x.f x.l≤0)
def iS (l:List Int):Bool:=decide (1≤l.length∧l.length≤8)&&l.all (fun t=>decide (0≤t∧t<281474976710656))
def dB (p:KV):Bool:=decide (p.1.size≠0)&&decide (p.1.size≤32)&&decide (p.2.size≤20000)
def bO (e:PE):Bool:=e.add.all bB&&(decide (e.fl=[])||iS e.fl)&&inI e.log 0 4294967295&&e.ns.all dB
def remF:List (Int×Fi)→List Int→Option (List (Int×Fi))
 |m,[]=>some m
 |m,n::r=>if(aH m n).isSome then remF (aW m n) r else none
def iJ (next:Int):List (Int×Fi)→Int→List Fi→Option (List (Int×Fi)×Int)
 |m,last,[]=>some (m,last)
 |m,last,f::r=>if(aH m f.nu).isSome=true∨f.nu<next then none else iJ next (aG m f.nu f) (max last (f.nu+1)) r
def dU (fs:List Fi):List (Int×Fi):=fs.map (fun f=>(f.nu,f))
def gE (m:List (Int×Fi)):List Fi:=m.map (·.2)
def aU (l:List KV):List KV:=l.foldl (fun m p=>aG m p.1 p.2) []
def aZ (s e:List KV):List KV:=lF ((aU (s++e)).filter (fun p=>decide (p.2.size≠0)))
def aJ (l:List KV):Nat:=(l.map (fun p=>p.2.size)).sum
def metF (a b:Fi):Prop:=1≤a.lv∧a.lv=b.lv∧kc a.f b.l≤0∧kc b.f a.l≤0
def fI (l:List Fi):Prop:=l.Pairwise (fun b a=>¬ metF a b)
def leZ (a b:List Int):Prop:=a.length=b.length∧∀ i (h:i<a.length) (h':i<b.length),a[i]≤b[i]
def cU (s:PS) (e:PE):Int×List Fi×Int:=
 match remF (dU s.fs) e.rem with
 |none=>(22,[],0)
 |some m=>match iJ (max s.next 1) m (max s.next 1) e.add with
  |none=>(23,[],0)
  |some (m2,last)=>(0,cV (gE m2),last)
def kY (s:PS) (e:PE):Prop:=(e.fl≠[]∧s.fl≠[]∧¬ leZ s.fl e.fl)∨(0<e.log∧e.log<s.log)
def dM (e:PE) (l:List Fi) (ns:List KV):Prop:=50<e.add.length∨50000<aJ e.ns∨500<l.length∨50<ns.length∨50000<aJ ns
open Classical in
noncomputable def aO (s:PS) (e:PE):Int×PS:=
 if bO e=false then(1,s00)else
 if(cU s e).1≠0 then((cU s e).1,s00)else
 if kY s e then(32,s00)else
 if ¬ fI (cU s e).2.1 then(32,s00)else
 if dM e (cU s e).2.1 (aZ s.ns e.ns)then(2,s00)else
 (0,⟨(cU s e).2.1,(cU s e).2.2,if 0<e.log then e.log else s.log,if e.fl≠[]then e.fl else s.fl,aZ s.ns e.ns⟩)
structure cR (s:PS):Prop where
 nums:eP s.fs
 srt:SrtF s.fs
 apart:fI s.fs
 val:∀ f∈s.fs,bB f=true
 lt:∀ f∈s.fs,f.nu<s.next
 few:s.fs.length≤500
 next:0≤s.next∧s.next≤2147483648
 log:0≤s.log∧s.log≤4294967295
 fl:s.fl=[]∨iS s.fl=true
 nsrt:SrtN s.ns
 note:∀ p∈s.ns,dB p=true∧p.2.size≠0
 nfew:s.ns.length≤50∧aJ s.ns≤50000
theorem good00:cR s00:=⟨by simp[eP,s00],List.Pairwise.nil,List.Pairwise.nil,fun f h=>by simp[s00]at h,fun f h=>by simp[s00]at h,by simp[s00],by simp[s00],by simp[s00],.inl rfl,List.Pairwise.nil,fun p h=>by simp[s00]at h,by simp[s00,aJ]⟩
theorem good01:cR s01:=⟨by simp[eP,s01],List.Pairwise.nil,List.Pairwise.nil,fun f h=>by simp[s01]at h,fun f h=>by simp[s01]at h,by simp[s01],by simp[s01],by simp[s01],.inl rfl,List.Pairwise.nil,fun p h=>by simp[s01]at h,by simp[s01,aJ]⟩
structure MpF (m:List (Int×Fi)):Prop where
 key:∀ p∈m,p.2.nu=p.1
 nd:(m.map (·.1)).Nodup
theorem MpF.nums {m:List (Int×Fi)} (h:MpF m):eP (gE m):=by
 unfold eP gE
 rw[List.map_map]
 have:m.map ((fun f:Fi=>f.nu)∘fun p=>p.2)=m.map (·.1):=List.map_congr_left (fun p hp=>h.key p hp)
 rw[this]
 exact h.nd
theorem lU {fs:List Fi} (h:eP fs):MpF (dU fs):=by
 refine⟨fun p hp=>?_,?_⟩
 · obtain⟨f,_,rfl⟩:=List.mem_map.1 hp
   rfl
 · unfold dU
   rw[List.map_map]
   exact h
theorem delL_nd {K V:Type} [DecidableEq K] {m:List (K×V)} (h:(m.map (·.1)).Nodup) (a:K):((aW m a).map (·.1)).Nodup:=(List.filter_sublist.map _).nodup h
theorem any_iff {K V:Type} [DecidableEq K] {m:List (K×V)} {a:K}:(m.any (fun p=>decide (p.1=a)))=true↔∃ p∈m,p.1=a:=by
 simp[List.any_eq_true]
theorem setL_keys {K V:Type} [DecidableEq K] (m:List (K×V)) (a:K) (v:V):(aG m a v).map (·.1)=if ∃ p∈m,p.1=a then m.map (·.1)else m.map (·.1)++[a]:=by
 unfold aG
 by_cases h:(m.any (fun p=>decide (p.1=a)))=true
 · rw[if_pos h,if_pos (any_iff.1 h),List.map_map]
   refine List.map_congr_left (fun p _=>?_)
   simp only[Function.comp]
   split
   · rename_i e;exact e.symm
   · rfl
 · rw[if_neg h,if_neg (fun k=>h (any_iff.2 k)),List.map_append]
   rfl
theorem lG {K V:Type} [DecidableEq K] {m:List (K×V)} (h:(m.map (·.1)).Nodup) (a:K) (v:V):((aG m a v).map (·.1)).Nodup:=by
 rw[setL_keys]
 split
 · exact h
 · rename_i hn
   refine List.nodup_append.2 ⟨h,by simp,fun x hx y hy e=>?_⟩
   rw[List.mem_singleton]at hy
   subst hy e
   obtain⟨p,hp,e⟩:=List.mem_map.1 hx
   exact hn ⟨p,hp,e⟩
theorem remF_mp {m m2:List (Int×Fi)} (r:List Int) (h:MpF m) (hr:remF m r=some m2):MpF m2∧∀ p∈m2,p∈m:=by
 induction r generalizing m with
 |nil=>simp only[remF,Option.some.injEq]at hr;subst hr;exact⟨h,fun p hp=>hp⟩
 |cons n r ih=>
  unfold remF at hr
  split at hr
  · obtain⟨h1,h2⟩:=ih ⟨fun p hp=>h.key p (gW hp),delL_nd h.nd n⟩ hr
    exact⟨h1,fun p hp=>gW (h2 p hp)⟩
  · cases hr
theorem addF_mp {next:Int} (r:List Fi) {m m2:List (Int×Fi)} {l l2:Int} (h:MpF m) (hr:iJ next m l r=some (m2,l2)):MpF m2∧l≤l2∧(∀ p∈m2,p∈m∨(p.2∈r∧p.1=p.2.nu∧p.2.nu<l2))∧(∀ f∈r,next≤f.nu)∧m2.length=m.length+r.length∧(l2=l∨∃ f∈r,l2=f.nu+1):=by
 induction r generalizing m l with
 |nil=>
  simp only[iJ,Option.some.injEq,Prod.mk.injEq]at hr
  obtain⟨rfl,rfl⟩:=hr
  exact⟨h,Int.le_refl _,fun p hp=> .inl hp,fun f hf=>by simp at hf,rfl,.inl rfl⟩
 |cons f r ih=>
  unfold iJ at hr
  split at hr
  · cases hr
  · rename_i hn
    have hn1:(aH m f.nu).isSome=false:=by
     cases hq:(aH m f.nu).isSome with
     |false=>rfl
     |true=>exact absurd (.inl hq) hn
    have hn2:next≤f.nu:=by
     by_cases hq:f.nu<next
     · exact absurd (.inr hq) hn
     · omega
    have hnone:∀ p∈m,p.1≠f.nu:=fun p hp e=>by
     have:(m.find? (fun p=>decide (p.1=f.nu))).isSome=true:=List.find?_isSome.2 ⟨p,hp,by simp[e]⟩
     unfold aH at hn1
     rw[Option.isSome_map]at hn1
     rw[this]at hn1
     cases hn1
    have hset:=iY (v:=f) hnone
    obtain⟨h1,h2,h3,h4,h5,h6⟩:=ih (m:=aG m f.nu f) ⟨fun p hp=>by
     rcases fC hp with rfl|hp
     · rfl
     · exact h.key p hp,lG h.nd _ _⟩ hr
    refine⟨h1,by omega,fun p hp=>?_,fun g hg=>?_,?_,?_⟩
    · rcases h3 p hp with hp|⟨hp,e1,e2⟩
      · rcases fC hp with rfl|hp
        · exact .inr ⟨by simp,rfl,by show f.nu<l2;omega⟩
        · exact .inl hp
      · exact .inr ⟨List.mem_cons_of_mem _ hp,e1,e2⟩
    · rcases List.mem_cons.1 hg with rfl|hg
      · exact hn2
      · exact h4 g hg
    · rw[h5,hset]
      simp only[List.length_append,List.length_cons,List.length_nil]
      omega
    · rcases h6 with h6|⟨g,hg,h6⟩
      · by_cases hm:l≤f.nu+1
        · exact .inr ⟨f,by simp,by omega⟩
        · exact .inl (by omega)
      · exact .inr ⟨g,List.mem_cons_of_mem _ hg,h6⟩
theorem jI (l:List KV):((aU l).map (·.1)).Nodup:=by
 unfold aU
 have:∀ (l:List KV) (m:List KV),(m.map (·.1)).Nodup→((l.foldl (fun m p=>aG m p.1 p.2) m).map (·.1)).Nodup:=by
  intro l
  induction l with
  |nil=>intro m h;exact h
  |cons p l ih=>intro m h;exact ih _ (lG h _ _)
 exact this l [] (by simp)
theorem kD {l:List KV} {p:KV} (h:p∈aU l):p∈l:=by
 unfold aU at h
 have:∀ (l:List KV) (m:List KV),p∈l.foldl (fun m p=>aG m p.1 p.2) m→p∈l∨p∈m:=by
  intro l
  induction l with
  |nil=>intro m h;exact .inr h
  |cons q l ih=>
   intro m h
   rcases ih _ h with h|h
   · exact .inl (List.mem_cons_of_mem _ h)
   · rcases fC h with rfl|h
     · exact .inl (by simp)
     · exact .inr h
 rcases this l [] h with h|h
 · exact h
 · simp at h
theorem notesF_nd (s e:List KV):(((aU (s++e)).filter (fun p=>decide (p.2.size≠0))).map (·.1)).Nodup:=(List.filter_sublist.map _).nodup (jI _)
theorem iC (s e:List KV):SrtN (aZ s e):=jO (notesF_nd s e)
theorem notesF_mem {s e:List KV} {p:KV} (h:p∈aZ s e):p∈aU (s++e)∧p.2.size≠0:=by
 have:=(dZ _).mem_iff.1 h
 obtain⟨h1,h2⟩:=List.mem_filter.1 this
 exact⟨h1,of_decide_eq_true h2⟩
theorem tabF_zero {s:PS} {e:PE} (h:(cU s e).1=0):∃ m m2 last,remF (dU s.fs) e.rem=some m∧iJ (max s.next 1) m (max s.next 1) e.add=some (m2,last)∧cU s e=(0,cV (gE m2),last):=by
 cases hr:remF (dU s.fs) e.rem with
 |none=>
  unfold cU at h
  rw[hr]at h
  simp at h
 |some m=>
  cases hd:iJ (max s.next 1) m (max s.next 1) e.add with
  |none=>
   unfold cU at h
   rw[hr]at h
   simp only[hd]at h
   simp at h
  |some x=>
   obtain⟨m2,last⟩:=x
   refine⟨m,m2,last,rfl,hd,?_⟩
   unfold cU
   rw[hr]
   simp only[hd]
theorem kS {s t:PS} {e:PE} (h:cR s) (ha:aO s e=(0,t)):cR t∧max s.next 1≤t.next∧s.log≤t.log∧(s.fl=[]∨leZ s.fl t.fl):=by
 unfold aO at ha
 split at ha
 · injection ha with h1;omega
 rename_i hright
 split at ha
 · rename_i h1;injection ha with h2;exact absurd h2 h1
 rename_i htab
 split at ha
 · injection ha with h1;omega
 rename_i hord
 split at ha
 · injection ha with h1;omega
 rename_i hap
 split at ha
 · injection ha with h1;omega
 rename_i hlong
 injection ha with _ ha
 subst ha
 have hright:bO e=true:=by simpa using hright
 have hap:fI (cU s e).2.1:=Classical.not_not.1 hap
 unfold bO at hright
 simp only[Bool.and_eq_true]at hright
 obtain⟨⟨⟨hv,hf⟩,hlg⟩,hns⟩:=hright
 have hlg:=of_decide_eq_true hlg
 have hL:=h.log
 have hN:=h.next
 have h0:(cU s e).1=0:=Classical.not_not.1 htab
 unfold dM at hlong
 obtain⟨m,m2,last,hr,hd,ht⟩:=tabF_zero h0
 rw[ht]at hap hlong ⊢
 simp only at hap hlong ⊢
 obtain⟨hm1,hm2⟩:=remF_mp e.rem (lU h.nums) hr
 obtain⟨hm3,hm4,hm5,hm6,_,hm8⟩:=addF_mp e.add hm1 hd
 have hmem:∀ f∈cV (gE m2),f∈s.fs∨(f∈e.add∧f.nu<last):=by
  intro f hf
  obtain⟨p,hp,rfl⟩:=List.mem_map.1 ((eC _).mem_iff.1 hf)
  rcases hm5 p hp with hp|⟨h1,_,h2⟩
  · obtain⟨g,hg,rfl⟩:=List.mem_map.1 (hm2 p hp)
    exact .inl hg
  · exact .inr ⟨h1,h2⟩
 refine⟨⟨hm3.nums.perm (eC _),kL hm3.nums,hap,fun f hf=>?_,fun f hf=>?_,(by omega:(cV (gE m2)).length≤500),?_,?_,?_,iC _ _,fun p hp=>?_,(by omega:(aZ s.ns e.ns).length≤50∧aJ (aZ s.ns e.ns)≤50000)⟩,hm4,?_,?_⟩
 · rcases hmem f hf with h1|h1
   · exact h.val f h1
   · exact List.all_eq_true.1 hv f h1.1
 · rcases hmem f hf with h1|h1
   · have:=h.lt f h1
     show f.nu<last
     omega
   · exact h1.2
 · show 0≤last∧last≤2147483648
   rcases hm8 with h1|⟨f,hf,h1⟩
   · omega
   · have hvf:=List.all_eq_true.1 hv f hf
     unfold bB at hvf
     simp only[Bool.and_eq_true]at hvf
     have h2:=of_decide_eq_true hvf.1.1.1.1.1.2
     omega
 · show 0≤(if 0<e.log then e.log else s.log)∧(if 0<e.log then e.log else s.log)≤4294967295
   split<;>omega
 · show(if e.fl≠[]then e.fl else s.fl)=[]∨iS (if e.fl≠[]then e.fl else s.fl)=true
   split
   · rename_i hne
     right
     simp only[Bool.or_eq_true,decide_eq_true_eq]at hf
     rcases hf with h1|h1
     · exact absurd h1 hne
     · exact h1
   · exact h.fl
 · obtain⟨h1,h2⟩:=notesF_mem hp
   refine⟨?_,h2⟩
   rcases List.mem_append.1 (kD h1)with h3|h3
   · exact(h.note p h3).1
   · exact List.all_eq_true.1 hns p h3
 · show s.log≤(if 0<e.log then e.log else s.log)
   split
   · rename_i hpos
     by_cases hlt:e.log<s.log
     · exact absurd (.inr ⟨hpos,hlt⟩) hord
     · omega
   · exact Int.le_refl _
 · show s.fl=[]∨leZ s.fl (if e.fl≠[]then e.fl else s.fl)
   by_cases h1:s.fl=[]
   · exact .inl h1
   · right
     split
     · rename_i hne
       exact Classical.byContradiction fun h2=>hord (.inl ⟨hne,h1,h2⟩)
     · exact⟨rfl,fun i _ _=>Int.le_refl _⟩
end
end Go.Proofs.YtpfibkgmfapnjaaGreatDoor
