/- Manifest, plain: of a disk that has other files as well, the files of a log. -/
import Derived.Test.YtpfibkgmfapnjaaGreatDoorS28
import Derived.Test.YtpfibkgmfapnjaaGreatDoorS30
set_option linter.unusedSimpArgs false
set_option linter.unusedVariables false
namespace Go.Proofs.YtpfibkgmfapnjaaGreatDoor
section
def iO (dir s:ByteArray):Bool:=(dir++tW).data.toList.isPrefixOf s.data.toList||decide (s=bR dir)
def eL (dir:ByteArray) (m:Fm):Fm:=m.filter (fun p=>iO dir p.1)
def bX (dir:ByteArray) (m:Fm):Fm:=m.filter (fun p=> !iO dir p.1)
variable {dir s:ByteArray} {m:Fm} {v:Fl}
theorem lO {α:Type} {p q:α→Bool} (h:∀ x,q x=true→p x=true):∀ l:List α,(l.filter p).find? q=l.find? q
 |[]=>rfl
 |x::l=>by
  rw[List.filter_cons,List.find?_cons]
  by_cases hp:p x=true
  · rw[if_pos hp,List.find?_cons,lO h l]
  · rw[if_neg hp,lO h l]
    cases hq:q x with
    |true=>exact absurd (h x hq) hp
    |false=>rfl
theorem gS (h:iO dir s=true):aH (eL dir m) s=aH m s:=by
 unfold aH eL
 rw[lO (fun x hx=>by rw[of_decide_eq_true hx];exact h)]
theorem getL_rstM (h:iO dir s=false):aH (bX dir m) s=aH m s:=by
 unfold aH bX
 rw[lO (fun x hx=>by rw[of_decide_eq_true hx,h];rfl)]
theorem cW {q:ByteArray→Bool} {f:ByteArray×Fl→ByteArray×Fl} (hf:∀ p,(f p).1=p.1):∀ m:Fm,(m.map f).filter (fun p=>q p.1)=(m.filter (fun p=>q p.1)).map f
 |[]=>rfl
 |x::m=>by
  rw[List.map_cons,List.filter_cons,List.filter_cons,hf x,cW hf m]
  split<;>simp
theorem any_logM (h:iO dir s=true):∀ m:Fm,(eL dir m).any (fun p=>decide (p.1=s))=m.any (fun p=>decide (p.1=s))
 |[]=>rfl
 |x::m=>by
  unfold eL
  rw[List.filter_cons]
  by_cases hx:iO dir x.1=true
  · rw[if_pos hx,List.any_cons,List.any_cons]
    have:=any_logM h m
    unfold eL at this
    rw[this]
  · rw[if_neg hx,List.any_cons]
    have:=any_logM h m
    unfold eL at this
    rw[this]
    have hne:¬ x.1=s:=fun e=>hx (by rw[e];exact h)
    simp[hne]
theorem set_key (s:ByteArray) (v:Fl) (p:ByteArray×Fl):(if p.1=s then(s,v)else p).1=p.1:=by
 split
 · rename_i e;exact e.symm
 · rfl
theorem setL_logM (h:iO dir s=true):eL dir (aG m s v)=aG (eL dir m) s v:=by
 unfold aG
 rw[any_logM h]
 split
 · exact cW (q:=iO dir) (set_key s v) m
 · unfold eL
   rw[List.filter_append]
   simp[h]
theorem map_id_of {f:ByteArray×Fl→ByteArray×Fl} {l:Fm} (h:∀ p∈l,f p=p):l.map f=l:=by
 conv=>rhs;rw[← List.map_id l]
 exact List.map_congr_left h
theorem setL_rstM (h:iO dir s=true):bX dir (aG m s v)=bX dir m:=by
 unfold aG
 split
 · have h1:=cW (q:=fun x=> !iO dir x) (set_key s v) m
   unfold bX
   refine Eq.trans h1 (map_id_of (fun p hp=>?_))
   have hp2:=(List.mem_filter.1 hp).2
   have hne:¬ p.1=s:=fun e=>by rw[e,h]at hp2;cases hp2
   rw[if_neg hne]
 · unfold bX
   rw[List.filter_append]
   simp[h]
theorem used_split (dir:ByteArray):∀ m:Fm,used m=used (eL dir m)+used (bX dir m)
 |[]=>rfl
 |x::m=>by
  have ih:=used_split dir m
  unfold used eL bX at*
  rw[List.filter_cons,List.filter_cons]
  cases hx:iO dir x.1 with
  |true=>simp only[hx,if_true,Bool.not_true,Bool.false_eq_true,if_false,List.map_cons,List.sum_cons];omega
  |false=>simp only[hx,if_false,Bool.not_false,Bool.false_eq_true,if_true,List.map_cons,List.sum_cons];omega
theorem delL_logM:eL dir (aW m s)=aW (eL dir m) s:=by
 unfold eL aW
 rw[List.filter_filter,List.filter_filter]
 exact List.filter_congr (fun p _=>Bool.and_comm _ _)
theorem delL_rstM (h:iO dir s=true):bX dir (aW m s)=bX dir m:=by
 unfold bX aW
 rw[List.filter_filter]
 refine List.filter_congr (fun p _=>?_)
 by_cases e:p.1=s
 · rw[e,h];rfl
 · simp[e]
def Dk.logP (D:Dk) (dir:ByteArray):Dk:={D with m:=eL dir D.m,quota:=if D.quota<0 then D.quota else D.quota - (used (bX dir D.m):Int)}
structure Dk.Fit (D:Dk) (dir:ByteArray):Prop where
 fz:D.fuse=none
 few:D.m.length<20000
 quo:D.quota<0∨(used (bX dir D.m):Int)≤D.quota
structure PrO (D:Dk) (dir:ByteArray) (r r':Int×Dk):Prop where
 c:r.1=r'.1
 p:r.2.logP dir=r'.2
 rst:bX dir r.2.m=bX dir D.m
 fz:r.2.fuse=none
 on:r.2.on=D.on
 quo:r.2.quota=D.quota
 len:r.2.m.length≤D.m.length+1
variable {D:Dk} {data:ByteArray}
theorem PrO.same (c:Int) (hz:D.fuse=none):PrO D dir (c,D) (c,D.logP dir):=⟨rfl,rfl,rfl,hz,rfl,rfl,Nat.le_succ _⟩
theorem gY (hz:D.fuse=none) (f:Fm→Fm):D.act f=(0,{D with m:=f D.m,acts:=D.acts+1}):=by
 unfold Dk.act
 rw[hz]
theorem act_pr (hz:D.fuse=none) (f g:Fm→Fm) (h1:eL dir (f D.m)=g (eL dir D.m)) (h2:bX dir (f D.m)=bX dir D.m) (h3:(f D.m).length≤D.m.length+1):PrO D dir (D.act f) ((D.logP dir).act g):=by
 have hz':(D.logP dir).fuse=none:=hz
 rw[gY hz,gY hz']
 refine⟨rfl,?_,h2,hz,rfl,rfl,h3⟩
 unfold Dk.logP
 simp only[h1,h2]
theorem iZ (m:Fm) (s:ByteArray) (v:Fl):(aG m s v).length≤m.length+1:=by
 unfold aG
 split<;>simp
theorem create_pr (h:D.Fit dir) (hs:iO dir s=true):PrO D dir (D.create s) ((D.logP dir).create s):=by
 unfold Dk.create
 have ha:(D.logP dir).asked [s]=D.asked [s]:=rfl
 have hg:aH (D.logP dir).m s=aH D.m s:=gS hs
 have hl:(D.logP dir).m.length≤D.m.length:=List.length_filter_le _ _
 have hf:=h.few
 rw[ha,hg,if_neg (show ¬ 20000≤D.m.length by omega),if_neg (show ¬ 20000≤(D.logP dir).m.length by omega)]
 split
 · exact PrO.same _ h.fz
 · split
   · exact PrO.same _ h.fz
   · exact act_pr h.fz _ _ (setL_logM hs) (setL_rstM hs) (iZ _ _ _)
theorem sync_pr (h:D.Fit dir) (hs:iO dir s=true):PrO D dir (D.sync s) ((D.logP dir).sync s):=by
 unfold Dk.sync
 have ha:(D.logP dir).asked [s]=D.asked [s]:=rfl
 have hg:aH (D.logP dir).m s=aH D.m s:=gS hs
 rw[ha,hg]
 split
 · exact PrO.same _ h.fz
 · split
   · exact PrO.same _ h.fz
   · exact act_pr h.fz _ _ (setL_logM hs) (setL_rstM hs) (iZ _ _ _)
theorem remove_pr (h:D.Fit dir) (hs:iO dir s=true):PrO D dir (D.remove s) ((D.logP dir).remove s):=by
 unfold Dk.remove
 have ha:(D.logP dir).asked [s]=D.asked [s]:=rfl
 have hg:aH (D.logP dir).m s=aH D.m s:=gS hs
 rw[ha,hg]
 split
 · exact PrO.same _ h.fz
 · split
   · exact PrO.same _ h.fz
   · exact act_pr h.fz _ _ delL_logM (delL_rstM hs) (Nat.le_trans (List.length_filter_le _ _) (Nat.le_succ _))
theorem app_pr (h:D.Fit dir) (hs:iO dir s=true):PrO D dir (D.app s data) ((D.logP dir).app s data):=by
 unfold Dk.app
 have ha:(D.logP dir).asked [s]=D.asked [s]:=rfl
 have hg:aH (D.logP dir).m s=aH D.m s:=gS hs
 have hu:=used_split dir D.m
 have hq:(0≤(D.logP dir).quota∧data.size≠0∧(D.logP dir).quota<(used (D.logP dir).m:Int)+data.size)↔(0≤D.quota∧data.size≠0∧D.quota<(used D.m:Int)+data.size):=by
  have e:(D.logP dir).quota=if D.quota<0 then D.quota else D.quota - (used (bX dir D.m):Int):=rfl
  have e2:(D.logP dir).m=eL dir D.m:=rfl
  rw[e,e2]
  have:=h.quo
  split<;>omega
 rw[ha,hg]
 split
 · exact PrO.same _ h.fz
 · split
   · exact PrO.same _ h.fz
   · split
     · exact PrO.same _ h.fz
     · by_cases hc:0≤D.quota∧data.size≠0∧D.quota<(used D.m:Int)+data.size
       · rw[if_pos hc,if_pos (hq.2 hc)]
         exact PrO.same _ h.fz
       · rw[if_neg hc,if_neg (fun e=>hc (hq.1 e))]
         exact act_pr h.fz _ _ (setL_logM hs) (setL_rstM hs) (iZ _ _ _)
end
section
variable {dir s r:ByteArray} {D:Dk} {L:Lg} {n:Int}
theorem isL_seg (dir:ByteArray) (n:Nat):iO dir (aV dir n)=true:=by
 unfold iO
 rw[Bool.or_eq_true]
 left
 rw[List.isPrefixOf_iff_prefix,kC,cN]
 exact⟨hexF 8 n,by simp⟩
theorem PrO.fit {a a':Int×Dk} (h:D.Fit dir) (p:PrO D dir a a') (hl:a.2.m.length<20000):a.2.Fit dir:=
 ⟨p.fz,hl,by rw[p.quo,p.rst];exact h.quo⟩
structure PrG (D:Dk) (dir:ByteArray) (a a':Int×Dk×Lg):Prop where
 c:a.1=a'.1
 l:a.2.2=a'.2.2
 p:a.2.1.logP dir=a'.2.1
 rst:bX dir a.2.1.m=bX dir D.m
 fz:a.2.1.fuse=none
 on:a.2.1.on=D.on
 quo:a.2.1.quota=D.quota
theorem sync_g (h:D.Fit dir) (hd:L.dir=dir) (hs:∀ n,iO dir (cD dir n)=true):PrO D dir (L.sync D) (L.sync (D.logP dir)):=by
 unfold Lg.sync
 split
 · exact PrO.same _ h.fz
 · rw[hd]
   exact sync_pr h (hs _)
theorem lay_g (h:D.Fit dir) (hd:L.dir=dir) (hs:∀ n,iO dir (cD dir n)=true) (r:ByteArray):PrG D dir (L.lay D r) (L.lay (D.logP dir) r):=by
 have hp:=app_pr (data:=aQ r) h (hs L.op)
 unfold Lg.lay
 rw[hd]
 simp only
 rw[hp.c]
 split
 · exact⟨rfl,rfl,hp.p,hp.rst,hp.fz,hp.on,hp.quo⟩
 · exact⟨rfl,rfl,hp.p,hp.rst,hp.fz,hp.on,hp.quo⟩
theorem begin_g (h:D.Fit dir) (hd:L.dir=dir) (hs:∀ n,iO dir (cD dir n)=true):PrG D dir (L.begin_ D) (L.begin_ (D.logP dir)):=by
 have hp:=create_pr h (hs (L.last+1))
 unfold Lg.begin_
 rw[hd]
 split
 · exact⟨rfl,rfl,rfl,rfl,h.fz,rfl,rfl⟩
 · simp only
   rw[hp.c]
   split
   · exact⟨rfl,rfl,hp.p,hp.rst,hp.fz,hp.on,hp.quo⟩
   · exact⟨rfl,rfl,hp.p,hp.rst,hp.fz,hp.on,hp.quo⟩
theorem rotate_g (h:D.Fit dir) (hd:L.dir=dir) (ht:L.torn=false) (hs:∀ n,iO dir (cD dir n)=true):PrG D dir (L.rotate D) (L.rotate (D.logP dir)):=by
 have hp:=sync_g h hd hs
 unfold Lg.rotate
 rw[dH ht,dH ht]
 simp only[ne_eq,not_true_eq_false,if_false]
 rw[hp.c]
 split
 · exact⟨rfl,rfl,hp.p,hp.rst,hp.fz,hp.on,hp.quo⟩
 · exact⟨rfl,rfl,hp.p,hp.rst,hp.fz,hp.on,hp.quo⟩
theorem PrG.fit {a a':Int×Dk×Lg} (h:D.Fit dir) (p:PrG D dir a a') (hl:a.2.1.m.length<20000):a.2.1.Fit dir:=
 ⟨p.fz,hl,by rw[p.quo,p.rst];exact h.quo⟩
theorem PrG.trans {a a' b b':Int×Dk×Lg} (p:PrG D dir a a') (q:PrG a.2.1 dir b b'):PrG D dir b b':=
 ⟨q.c,q.l,q.p,q.rst.trans p.rst,q.fz,q.on.trans p.on,q.quo.trans p.quo⟩
theorem gJ (dir:ByteArray):∀ n,iO dir (cD dir n)=true:=fun n=>isL_seg dir n.toNat
theorem sync_len:(L.sync D).2.m.length≤D.m.length+1∨D.fuse≠none:=by
 by_cases hz:D.fuse=none
 · left
   unfold Lg.sync
   split
   · exact Nat.le_succ _
   · unfold Dk.sync
     split
     · exact Nat.le_succ _
     · split
       · exact Nat.le_succ _
       · rw[gY hz]
         exact iZ _ _ _
 · exact .inr hz
theorem rotate_keep (ht:L.torn=false) (hz:D.fuse=none):(L.rotate D).2.1.m.length≤D.m.length+1∧(L.rotate D).2.2.dir=L.dir∧(L.rotate D).2.2.torn=false:=by
 have h1:=(sync_len (L:=L) (D:=D)).resolve_right (fun e=>e hz)
 unfold Lg.rotate
 rw[dH ht]
 simp only[ne_eq,not_true_eq_false,if_false]
 split
 · exact⟨h1,rfl,ht⟩
 · exact⟨h1,rfl,ht⟩
theorem begin_keep (hz:D.fuse=none):(L.begin_ D).2.1.m.length≤D.m.length+1∧(L.begin_ D).2.2.dir=L.dir:=by
 have h1:(D.create (cD L.dir (L.last+1))).2.m.length≤D.m.length+1:=by
  unfold Dk.create
  split
  · exact Nat.le_succ _
  · split
    · exact Nat.le_succ _
    · split
      · exact Nat.le_succ _
      · rw[gY hz]
        exact iZ _ _ _
 unfold Lg.begin_
 split
 · exact⟨Nat.le_succ _,rfl⟩
 · simp only
   split
   · exact⟨h1,rfl⟩
   · exact⟨h1,rfl⟩
theorem PrG.same (c:Int) (L:Lg) (h:D.Fit dir):PrG D dir (c,D,L) (c,D.logP dir,L):=⟨rfl,rfl,rfl,rfl,h.fz,rfl,rfl⟩
theorem lay_on {b b':Int×Dk×Lg} (h:D.Fit dir) (p:PrG D dir b b') (hl:b.2.1.m.length<20000) (hd:b.2.2.dir=dir) (r:ByteArray):
 PrG D dir (if b.1≠0 then b else b.2.2.lay b.2.1 r) (if b'.1≠0 then b' else b'.2.2.lay b'.2.1 r):=by
 rw[← p.c]
 split
 · exact p
 · have hg:=lay_g (p.fit h hl) hd (gJ dir) r
   rw[← p.l,←p.p]
   exact p.trans hg
theorem open_on {b b':Int×Dk×Lg} (h:D.Fit dir) (p:PrG D dir b b') (hl:b.2.1.m.length+1<20000) (hd:b.2.2.dir=dir) (r:ByteArray):
 PrG D dir (if b.1≠0 then b else
  (if(if b.2.2.op=0 then b.2.2.begin_ b.2.1 else(0,b.2.1,b.2.2)).1≠0 then(if b.2.2.op=0 then b.2.2.begin_ b.2.1 else(0,b.2.1,b.2.2))else(if b.2.2.op=0 then b.2.2.begin_ b.2.1 else(0,b.2.1,b.2.2)).2.2.lay (if b.2.2.op=0 then b.2.2.begin_ b.2.1 else(0,b.2.1,b.2.2)).2.1 r))
 (if b'.1≠0 then b' else
  (if(if b'.2.2.op=0 then b'.2.2.begin_ b'.2.1 else(0,b'.2.1,b'.2.2)).1≠0 then(if b'.2.2.op=0 then b'.2.2.begin_ b'.2.1 else(0,b'.2.1,b'.2.2))else(if b'.2.2.op=0 then b'.2.2.begin_ b'.2.1 else(0,b'.2.1,b'.2.2)).2.2.lay (if b'.2.2.op=0 then b'.2.2.begin_ b'.2.1 else(0,b'.2.1,b'.2.2)).2.1 r)):=by
 have hf:=p.fit h (by omega)
 rw[← p.c]
 by_cases h0:b.1≠0
 · rw[if_pos h0,if_pos h0];exact p
 · rw[if_neg h0,if_neg h0,←p.l,←p.p]
   by_cases ho:b.2.2.op=0
   · rw[if_pos ho,if_pos ho]
     have hk:=begin_keep (L:=b.2.2) hf.fz
     exact p.trans (lay_on hf (begin_g hf hd (gJ dir)) (by omega) (hk.2.trans hd) r)
   · rw[if_neg ho,if_neg ho]
     exact p.trans (lay_on hf (PrG.same 0 b.2.2 hf) (by show b.2.1.m.length<_;omega) hd r)
theorem append_g (h:D.Fit dir) (hl:D.m.length+3<20000) (hd:L.dir=dir) (ht:L.torn=false) (r:ByteArray):PrG D dir (L.append D r) (L.append (D.logP dir) r):=by
 unfold Lg.append
 rw[dH ht,dH ht]
 by_cases hr:131072<r.size
 · rw[if_pos hr,if_pos hr];exact PrG.same 2 L h
 · rw[if_neg hr,if_neg hr]
   simp only[ne_eq,not_true_eq_false,if_false]
   by_cases hfu:L.full r=true
   · rw[if_pos hfu,if_pos hfu]
     have hk:=rotate_keep (D:=D) ht h.fz
     exact open_on h (rotate_g h hd ht (gJ dir)) (by omega) (hk.2.1.trans hd) r
   · rw[if_neg hfu,if_neg hfu]
     exact open_on h (PrG.same 0 L h) (by show D.m.length+1<_;omega) hd r
theorem remove_len (hz:D.fuse=none):(D.remove s).2.m.length≤D.m.length:=by
 unfold Dk.remove
 split
 · exact Nat.le_refl _
 · split
   · exact Nat.le_refl _
   · rw[gY hz]
     exact List.length_filter_le _ _
theorem dropK_g (below:Int):∀ (ns:List Int) (L:Lg) (D:Dk),D.Fit L.dir→PrG D L.dir (Lg.dropK below ns L D) (Lg.dropK below ns L (D.logP L.dir))
 |[],L,D,h=>PrG.same 0 L h
 |n::ns,L,D,h=>by
  have hp:=remove_pr h (gJ L.dir n)
  have hlen:=remove_len (D:=D) (s:=cD L.dir n) h.fz
  unfold Lg.dropK
  by_cases hc:below≤n∨n=L.op
  · rw[if_pos hc,if_pos hc];exact dropK_g below ns L D h
  · rw[if_neg hc,if_neg hc]
    simp only
    rw[← hp.c]
    by_cases h0:(D.remove (cD L.dir n)).1≠0
    · rw[if_pos h0,if_pos h0]
      exact⟨rfl,rfl,hp.p,hp.rst,hp.fz,hp.on,hp.quo⟩
    · rw[if_neg h0,if_neg h0,←hp.p]
      have hf:(D.remove (cD L.dir n)).2.Fit L.dir:=hp.fit h (by have:=h.few;omega)
      obtain⟨L2,hL2,hd2⟩:∃ L2,(if(aW L.m n).length=0 then {L with m:=aW L.m n,torn:=false,left:=ByteArray.empty} else {L with m:=aW L.m n}:Lg)=L2∧L2.dir=L.dir:=⟨_,rfl,by split<;>rfl⟩
      rw[hL2]
      have q:=dropK_g below ns L2 (D.remove (cD L.dir n)).2 (by rw[hd2];exact hf)
      rw[hd2]at q
      exact⟨q.c,q.l,q.p,q.rst.trans hp.rst,q.fz,q.on.trans hp.on,q.quo.trans hp.quo⟩
theorem drop_g (h:D.Fit dir) (hd:L.dir=dir) (below:Int):PrG D dir (L.drop D below) (L.drop (D.logP dir) below):=by
 subst hd
 exact dropK_g below _ L D h
end
section
variable {dir s t r:ByteArray} {D:Dk} {L:Lg}
theorem list_pr {p:ByteArray} (hp:∀ s:ByteArray,p.data.toList.isPrefixOf s.data.toList=true→iO dir s=true):(D.logP dir).list p=D.list p:=by
 unfold Dk.list
 have ho:(D.logP dir).on=D.on:=rfl
 rw[ho]
 split
 · refine sorted_unique ?_ (List.Pairwise.filter _ (sortB_sorted _)) (List.Pairwise.filter _ (sortB_sorted _))
   refine((sortB_perm _).filter _).trans (List.Perm.trans ?_ ((sortB_perm _).filter _).symm)
   have e:((D.logP dir).m.map (·.1)).filter (fun s=>p.data.toList.isPrefixOf s.data.toList)=(D.m.map (·.1)).filter (fun s=>p.data.toList.isPrefixOf s.data.toList):=by
    rw[List.filter_map,List.filter_map]
    congr 1
    show(D.m.filter (fun q=>iO dir q.1)).filter _=_
    rw[List.filter_filter]
    refine List.filter_congr (fun q _=>?_)
    simp only[Function.comp]
    cases hq:p.data.toList.isPrefixOf q.1.data.toList with
    |true=>simp[hp q.1 hq]
    |false=>simp
   rw[e]
 · rfl
theorem list_beg:(D.logP dir).list (dir++tW)=D.list (dir++tW):=list_pr (fun s hs=>by unfold iO;rw[hs];rfl)
end
section
variable {dir s t r:ByteArray} {D:Dk} {L:Lg}
structure PrW (n:Nat) (D:Dk) (dir:ByteArray) (r r':Int×Dk):Prop where
 len:r.2.m.length≤D.m.length+n
 c:r.1=r'.1
 p:r.2.logP dir=r'.2
 rst:bX dir r.2.m=bX dir D.m
 fz:r.2.fuse=none
 on:r.2.on=D.on
 quo:r.2.quota=D.quota
end
section
open Go.RowKit Go.Lib
variable {F F' G G' H:Nat→Prop} {B:Nat} {w w' w0:World} {lb mp db mb k n:Nat} {L L':Lg} {D D':Dk} {S S':List (Nat×Fl)} {M:Option Fl} {f:Fl} {dm r:ByteArray} {size q:Int}
theorem split_len (dir:ByteArray):∀ m:Fm,m.length=(eL dir m).length+(bX dir m).length
 |[]=>rfl
 |x::m=>by
  have ih:=split_len dir m
  unfold eL bX at*
  rw[List.filter_cons,List.filter_cons]
  cases hx:iO dir x.1 with
  |true=>simp only[if_true,Bool.not_true,Bool.false_eq_true,if_false,List.length_cons];omega
  |false=>simp only[Bool.not_false,Bool.false_eq_true,if_false,if_true,List.length_cons];omega
structure eG (dm:ByteArray) (D:Dk) (L:Lg) (S:List (Nat×Fl)) (q:Int) (k:Nat):Prop where
 fz:D.fuse=none
 quo:D.quota<0∨(used (bX dm D.m):Int)≤D.quota
 on:D.on=true
 lg:D.logP dm=dE (aY dm S none) q none k
 run:jK dm 4096 L S
theorem eG.acts (o:eG dm D L S q k):D.acts=k:=congrArg Dk.acts o.lg
theorem eG.m (o:eG dm D L S q k):eL dm D.m=aY dm S none:=congrArg Dk.m o.lg
theorem eG.len (o:eG dm D L S q k):D.m.length=S.length+(bX dm D.m).length:=by
 rw[split_len dm D.m,o.m]
 unfold aY
 simp
theorem eG.fit (o:eG dm D L S q k) (h:S.length+(bX dm D.m).length<20000):D.Fit dm:=⟨o.fz,by rw[o.len];exact h,o.quo⟩
structure Oth (dm:ByteArray) (D D':Dk):Prop where
 rst:bX dm D'.m=bX dm D.m
 quo:D'.quota=D.quota
theorem Oth.trans {D'':Dk} (h:Oth dm D D') (g:Oth dm D' D''):Oth dm D D'':=⟨g.rst.trans h.rst,g.quo.trans h.quo⟩
theorem PrG.lgOn {a a':Int×Dk×Lg} {k':Nat} (o:eG dm D L S q k) (p:PrG D dm a a') (h1:a'.2.1=dE (aY dm S' none) q none k') (h2:jK dm 4096 a'.2.2 S'):eG dm a.2.1 a.2.2 S' q k'∧Oth dm D a.2.1:=
 ⟨⟨p.fz,by rw[p.quo,p.rst];exact o.quo,p.on.trans o.on,p.p.trans h1,by rw[p.l];exact h2⟩,p.rst,p.quo⟩
def AppOn (dm:ByteArray) (D:Dk) (L:Lg) (S:List (Nat×Fl)) (q:Int) (k:Nat) (r:ByteArray) (x:Int×Dk×Lg):Prop:=
 (x.1=0∧∃ S' k',eG dm x.2.1 x.2.2 S' q k'∧Oth dm D x.2.1∧AppS 4096 L S S' r∧k'≤k+3∧x.2.2.op≠0)∨
 (x.1=24∧0≤q∧∃ S' k',eG dm x.2.1 x.2.2 S' q k'∧Oth dm D x.2.1∧cZ S'=cZ S∧aP S'≤aP S+1∧S'.length≤S.length+1∧k'≤k+3)
theorem lg_append (hd:dG dm=true) (hd40:dm.size≤40) (o:eG dm D L S q k) (hS:S.length+(bX dm D.m).length+40≤20000) (hl:aP S+1<4294967296) (r:ByteArray) (hr:r.size≤131072):AppOn dm D L S q k r (L.append D r):=by
 have hf:=o.fit (by omega)
 have p:=append_g hf (by rw[o.len];omega) o.run.dir o.run.torn r
 have ha:=append_run (q:=q) (k:=k) hd hd40 (by decide) o.run hr (by omega) hl
 rw[← o.lg]at ha
 rcases ha with⟨h0,S',k',h1,h2,h3,h4,h5⟩|⟨h0,hq,S',k',h1,h2,h3,h4,h5,h6⟩
 · obtain⟨o',t⟩:=p.lgOn o h1 h2
   exact .inl ⟨p.c.trans h0,S',k',o',t,h3,h4,by rw[p.l];exact h5⟩
 · obtain⟨o',t⟩:=p.lgOn o h1 h2
   exact .inr ⟨p.c.trans h0,hq,S',k',o',t,h3,h4,h5,h6⟩
theorem begin_long:((L.begin_ D).2.2.long=L.long∧(L.begin_ D).1≠0)∨(L.begin_ D).2.2.long=0:=by
 unfold Lg.begin_
 split
 · exact .inl ⟨rfl,by show(24:Int)≠0;decide⟩
 · simp only
   split
   · rename_i h
     exact .inl ⟨rfl,h⟩
   · exact .inr rfl
theorem lay_long:(L.lay D r).2.2.long=L.long∨(L.lay D r).2.2.long=L.long+(aQ r).size:=by
 unfold Lg.lay
 simp only
 split
 · exact .inl rfl
 · exact .inr rfl
theorem rotate_long (ht:L.torn=false):((L.rotate D).2.2.long=L.long∧(L.rotate D).1≠0)∨((L.rotate D).2.2.long=0∧(L.rotate D).2.2.op=0):=by
 unfold Lg.rotate
 rw[dH ht]
 simp only[ne_eq,not_true_eq_false,if_false]
 split
 · rename_i h
   exact .inl ⟨rfl,h⟩
 · exact .inr ⟨rfl,rfl⟩
theorem append_short (ht:L.torn=false) (hr:r.size≤131072) (h0:0≤L.long) (hop:L.op≠0→0<L.op) (hsz:L.size≤4096) (hl:L.long≤200000):(L.append D r).2.2.long≤200000:=by
 have hfr:=fE r
 unfold Lg.append
 rw[dH ht,if_neg (by omega)]
 simp only[ne_eq,not_true_eq_false,if_false]
 obtain⟨b,hb⟩:∃ b,(if L.full r=true then L.rotate D else(0,D,L))=b:=⟨_,rfl⟩
 rw[hb]
 have hb2:b.2.2.long≤200000∧(b.1=0→b.2.2.op=0∨b.2.2.long+(aQ r).size≤140000):=by
  rw[← hb]
  by_cases hf:L.full r=true
  · rw[if_pos hf]
    rcases rotate_long (D:=D) ht with⟨h1,h2⟩|⟨h1,h2⟩
    · exact⟨by omega,fun e=>absurd e h2⟩
    · exact⟨by omega,fun _=> .inl h2⟩
  · rw[if_neg hf]
    refine⟨hl,fun _=>?_⟩
    by_cases ho:L.op=0
    · exact .inl ho
    · right
      have:=hop ho
      unfold Lg.full at hf
      simp only[Bool.and_eq_true,decide_eq_true_eq]at hf
      show L.long+_≤_
      omega
 by_cases h1:b.1=0
 · rw[if_neg (fun e=>e h1)]
   obtain⟨c,hc⟩:∃ c,(if b.2.2.op=0 then b.2.2.begin_ b.2.1 else(0,b.2.1,b.2.2))=c:=⟨_,rfl⟩
   rw[hc]
   have hc2:c.2.2.long≤200000∧(c.1=0→c.2.2.long+(aQ r).size≤140000):=by
    rw[← hc]
    by_cases ho:b.2.2.op=0
    · rw[if_pos ho]
      rcases begin_long (L:=b.2.2) (D:=b.2.1)with⟨h3,h4⟩|h3
      · exact⟨by omega,fun e=>absurd e h4⟩
      · exact⟨by omega,fun _=>by omega⟩
    · rw[if_neg ho]
      exact⟨hb2.1,fun _=>(hb2.2 h1).resolve_left ho⟩
   by_cases h2:c.1=0
   · rw[if_neg (fun e=>e h2)]
     have:=hc2.2 h2
     rcases lay_long (L:=c.2.2) (D:=c.2.1) (r:=r)with h3|h3
     · omega
     · omega
   · rw[if_pos h2];exact hc2.1
 · rw[if_pos h1];exact hb2.1
theorem jK.pos (h:jK dm size L S):0≤L.long∧(L.op≠0→0<L.op):=by
 rcases h.op with⟨h0,h1,_⟩|⟨A,n,f,rfl,ho,hlong,_⟩
 · exact⟨by omega,fun e=>absurd h0 e⟩
 · have:=(h.rise.mid (B:=[])).2.2.1
   exact⟨by omega,fun _=>by omega⟩
theorem lg_sync (hd:dG dm=true) (hd40:dm.size≤40) (o:eG dm D L S q k) (hS:S.length+(bX dm D.m).length+40≤20000):
 (L.sync D).1=0∧∃ S' k',eG dm (L.sync D).2 L S' q k'∧Oth dm D (L.sync D).2∧k'≤k+1∧cZ S'=cZ S∧S'.length=S.length∧aP S'=aP S∧(∀ p∈S',iL p.2)∧S'.map (fun p=>(p.1,p.2.data))=S.map (fun p=>(p.1,p.2.data)):=by
 have hf:=o.fit (by omega)
 have p:=sync_g hf o.run.dir (gJ dm)
 obtain⟨S',k',h1,h2,h3,h4,h5,h6,_,h8,h9⟩:=sync_run (q:=q) (k:=k) hd hd40 o.run
 rw[← o.lg]at h1
 have hc:=p.c
 have hp:=p.p
 rw[h1]at hc hp
 exact⟨hc,S',k',⟨p.fz,by rw[p.quo,p.rst];exact o.quo,p.on.trans o.on,hp,h3⟩,⟨p.rst,p.quo⟩,h2,h4,h5,h6,h8,h9⟩
theorem rotate_run' {dir:ByteArray} (hd:dG dir=true) (hd40:dir.size≤40) (h:jK dir size L S):∃ S' k' L',L.rotate (dE (aY dir S none) q none k)=(0,dE (aY dir S' none) q none k',L')∧k'≤k+1∧jK dir size L' S'∧L'.op=0∧cZ S'=cZ S∧S'.length=S.length∧aP S'=aP S∧(∀ p∈S',iL p.2):=by
 rcases h.op with⟨h0,h1,hs⟩|⟨A,n,f,rfl,ho,hlong,hs⟩
 · refine⟨S,k,{L with op:=0,long:=0},?_,by omega,⟨h.dir,h.size,h.torn,h.left,h.m,h.rise,h.good,h.syn,.inl ⟨rfl,rfl,hs⟩⟩,rfl,rfl,rfl,rfl,hs⟩
   unfold Lg.rotate
   rw[kP h]
   simp only
   rw[if_neg (by decide)]
   unfold Lg.sync
   rw[if_pos h0]
   simp
 · obtain⟨L',h1,h2,h3⟩:=rotate_run (q:=q) (k:=k) hd hd40 h ho
   refine⟨_,k+1,L',h1,Nat.le_refl _,h2,h3,?_,by simp,by rw[lastN_snoc,lastN_snoc],fun p hp=>?_⟩
   · rw[cC,cC,allR_one,allR_one]
   · rcases List.mem_append.1 hp with hp|hp
     · exact hs p hp
     · rw[List.mem_singleton]at hp;subst hp;rfl
theorem lg_rotate (hd:dG dm=true) (hd40:dm.size≤40) (o:eG dm D L S q k) (hS:S.length+(bX dm D.m).length+40≤20000):
 (L.rotate D).1=0∧∃ S' k',eG dm (L.rotate D).2.1 (L.rotate D).2.2 S' q k'∧Oth dm D (L.rotate D).2.1∧(L.rotate D).2.2.op=0∧k'≤k+1∧cZ S'=cZ S∧S'.length=S.length∧aP S'=aP S∧(∀ p∈S',iL p.2):=by
 have hf:=o.fit (by omega)
 have p:=rotate_g hf o.run.dir o.run.torn (gJ dm)
 obtain⟨S',k',L',h1,h2,h3,h4,h5,h6,h7,h8⟩:=rotate_run' (q:=q) (k:=k) hd hd40 o.run
 rw[← o.lg]at h1
 have hq:(L.rotate (D.logP dm)).2.1=dE (aY dm S' none) q none k':=by rw[h1]
 have hl:jK dm 4096 (L.rotate (D.logP dm)).2.2 S':=by rw[h1];exact h3
 obtain⟨o',t⟩:=p.lgOn o hq hl
 refine⟨p.c.trans (by rw[h1]),S',k',o',t,?_,h2,h5,h6,h7,h8⟩
 rw[p.l,h1]
 exact h4
theorem lg_drop (hd:dG dm=true) (hd40:dm.size≤40) (o:eG dm D L S q k) (hS:S.length+(bX dm D.m).length+40≤20000) (h0:L.op=0) (hs:∀ p∈S,iL p.2) (below:Int):
 (L.drop D below).1=0∧∃ k',eG dm (L.drop D below).2.1 (L.drop D below).2.2 (eM below 0 S) q k'∧Oth dm D (L.drop D below).2.1∧(L.drop D below).2.2.op=0∧k'≤k+S.length:=by
 have hf:=o.fit (by omega)
 have p:=drop_g hf o.run.dir below
 obtain⟨k',h1,h2⟩:=drop_run (q:=q) (k:=k) hd hd40 o.run below
 rw[← o.lg,h0]at h2
 have hl0:L.long=0:=by
  rcases o.run.op with⟨_,h,_⟩|⟨A,n,f,e,ho,_⟩
  · exact h
  · have hn:=o.run.rise
    rw[e]at hn
    have:=(hn.mid (B:=[])).2.2.1
    rw[h0]at ho
    omega
 have hrun:jK dm 4096 (⟨dm,4096,fR (eM below 0 S),0,L.long,false,ByteArray.empty⟩:Lg) (eM below 0 S):=
  ⟨rfl,rfl,rfl,rfl,rfl,o.run.rise.filter _,fun p hp=>o.run.good p (List.mem_filter.1 hp).1,fun p hp=>o.run.syn p (List.mem_filter.1 hp).1,.inl ⟨rfl,hl0,fun p hp=>hs p (List.mem_filter.1 hp).1⟩⟩
 have hq:(L.drop (D.logP dm) below).2.1=dE (aY dm (eM below 0 S) none) q none k':=by rw[h2]
 have hl:jK dm 4096 (L.drop (D.logP dm) below).2.2 (eM below 0 S):=by rw[h2];exact hrun
 obtain⟨o',t⟩:=p.lgOn o hq hl
 refine⟨p.c.trans (by rw[h2]),k',o',t,?_,h1⟩
 rw[p.l,h2]
theorem keep_none (h:cL S):eM ((aP S:Int)+1) 0 S=[]:=by
 unfold eM
 refine List.filter_eq_nil_iff.2 (fun p hp=>?_)
 have h1:=lastN_lt h p hp
 have h2:=(h.rng p hp).1
 simp
 omega
structure AppPre (D:Dk) (L:Lg):Prop where
 on:D.on=true
 acts:D.acts+60≤1000000
 last:∃ n:Nat,n<4294967296∧L.last=(n:Int)
 few:L.m.length<20000
 opk:L.op≠0→∃ rs,aH L.m L.op=some rs
 recs:∀ p∈L.m,p.2.length+1≤1000000
 long:L.long≤900000
theorem lg_recs (o:eG dm D L S q k) (h:(cZ S).length+1≤1000000):∀ p∈L.m,p.2.length+1≤1000000:=by
 rw[o.run.m]
 intro p hp
 obtain⟨x,hx,rfl⟩:=List.mem_map.1 hp
 obtain⟨A,X,rfl⟩:=List.append_of_mem hx
 have:cZ (A++x::X)=cZ A++(aM x.2.data++cZ X):=by rw[cC];rfl
 rw[this,List.length_append,List.length_append]at h
 show(aM x.2.data).length+1≤_
 omega
theorem lg_pre (o:eG dm D L S q k) (hS:S.length<20000) (hl:aP S<4294967296) (hr:(cZ S).length+1≤1000000) (hk:k+60≤1000000) (hu:L.long≤200000):AppPre D L:=
 ⟨o.on,by rw[o.acts];exact hk,⟨aP S,hl,o.run.last⟩,by rw[o.run.m];unfold fR;rw[List.length_map];exact hS,o.run.opk,lg_recs o hr,by omega⟩
theorem Kept.behind {w1:World} {e:Ending} {r:Int×Dk×Lg} (hb:Below w.heap.size w w1) (k:Kept G F w1 w' lb mp db mb e r):Kept G F w w' lb mp db mb e r:=by
 obtain⟨he,G',F',h1,h2,h3,h4,h5,h6,h7⟩:=k
 exact⟨he,G',F',h1,h2,h3,h4,fun q e=>(h5 q e).imp id (Nat.le_trans hb.size),fun q e=>(h6 q e).imp id (Nat.le_trans hb.size),(Tn.ofBelow hb).trans h7⟩
set_option maxRecDepth 100000 in
set_option maxHeartbeats 1000000 in
theorem gw_big (h:WS B w0 w F G db mb lb mp D L) (p:AppPre D L) (r:ByteArray) (hrs:r.size≤100000):
 Calls Tryz.prog 44 #[.pointer (some ⟨lb,0,none⟩),.string r] w fun e w'=>Kept G F w w' lb mp db mb e (L.append D (wB++r)):=by
 obtain⟨w1,hw1⟩:∃ w1,w.alloc (.cells #[.int .u8 87] 5)=w1:=⟨_,rfl⟩
 have hb1:Below w.heap.size w w1:=by rw[← hw1];exact(Below.refl _ _).alloc (Nat.le_refl _) _
 have c0:w1.cell? ⟨w.heap.size,0,none⟩=some (.int .u8 87):=by rw[← hw1];simp[go_sem]
 have hcv:(convert 114 9 (.slice (some ⟨w.heap.size,0,none⟩) 1 1)).run Tryz.prog w1= .ok (.string wB) w1:=by
  refine run_convert_bytes_back w1 114 9 5 ⟨w.heap.size,0,none⟩ 1 [87] Tryz.underlying114 Tryz.underlying5 Tryz.underlying9 fun j hj=>?_
  obtain rfl:j=0:=by simp at hj;omega
  exact c0
 obtain⟨n,hn,hlast⟩:=p.last
 have h1:=h.stay hb1
 have hA:=w_append h1.l h1.d.d h1.sub p.on p.acts hn hlast p.few (wB++r) (by rw[ByteArray.size_append];show 1+r.size≤_;omega) p.opk p.recs p.long
 have HA:=aB (aA hA (aA hb1 h1))
 have hrz:(r.size:Int)≤100000:=by omega
 have hrz2:r.size≤9223372036854775806:=by omega
 obtain⟨c,hc⟩:∃ c,(L.append D (wB++r)).1=c:=⟨_,rfl⟩
 have HC:=aB hc
 clear hA hb1 h p h1 hlast hc
 go_enter Tryz.func44,Tryz.ntmps44
 go_wp2_with (go_at_call 150;refine HA.out.1.mono ?_;intro e w2 hkp;obtain⟨rfl,hk2⟩:=hkp;rw[HC.out];have H2:=aB hk2;clear hk2)
 go_ret
 exact Kept.behind HA.out.2.1 ⟨by rw[HC.out];rfl,H2.out⟩
theorem lg_open (h:DS B w0 w F db mb D) (hd:dG dm=true) (hd40:dm.size≤40) (hfz:D.fuse=none) (hq:D.quota<0∨(used (bX dm D.m):Int)≤D.quota) (hon:D.on=true) (hlg:D.logP dm=dE (aY dm S none) q none k) (hr:cL S) (hg:∀ p∈S,cE p.2.data) (hsy:∀ p∈S,iL p.2) (hl:S.length<20000) (hk:k+20≤1000000):
 Calls Tryz.prog 30 #[.pointer (some ⟨db,0,none⟩),.string dm,.int .i64 4096] w fun e w'=>∃ F' lb mp G,e= .returned (.tuple #[.pointer (some ⟨lb,0,none⟩),.int .i64 0])∧WS B w0 w' F' G db mb lb mp D (opened dm 4096 S)∧fV F F' w w'∧eG dm D (opened dm 4096 S) S q k:=by
 have hm:eL dm D.m=aY dm S none:=congrArg Dk.m hlg
 have hs:SegD D dm S:=by
  refine⟨hr,?_,fun p hp=>?_,hd,hd40,hl⟩
  · rw[← list_beg,hlg]
    exact list_segs hr
  · obtain⟨A,X,rfl⟩:=mid_of hp
    rw[← gS (isL_seg dm p.1),hm]
    exact gV hr
 refine(open_any h.d hon (by rw[show D.acts=k from congrArg Dk.acts hlg];exact hk) hs (by decide) (by decide)).mono ?_
 intro e w' ho
 obtain⟨F',s,_,hc⟩:=OpenE.opened h ho
 rcases hc with⟨⟨A,n,f,X,rfl,_,_,hng⟩,_⟩|⟨L,hls,hc⟩
 · exact absurd (hg (n,f) (by simp)) hng
 · rcases hls with⟨rfl,_⟩|⟨_,A,n,f,rfl,_,hng,_⟩
   · rw[List.take_length]at hc
     have hm:=dH (L:=opened dm 4096 S) (D:=D) rfl
     have he:({fresh dm 4096 with m:=fR S}:Lg)=opened dm 4096 S:=rfl
     rw[he,hm]at hc
     rcases hc with⟨h0,_⟩|⟨_,lb,mp,G,he,hw⟩
     · exact absurd rfl h0
     · exact⟨F',lb,mp,G,he,hw,s,hfz,hq,hon,hlg,run_opened hr hg hsy⟩
   · exact absurd (hg (n,f) (by simp)) hng
end
end Go.Proofs.YtpfibkgmfapnjaaGreatDoor
