/- Wal: a record more in a segment's row: what becomes of a log's blocks. -/
import Derived.Test.YtpfibkgmfapnjaaGreatDoorS24
import Derived.Deep.DeepCutAuto
set_option linter.unusedSimpArgs false
set_option linter.unusedVariables false
namespace Go.Proofs.YtpfibkgmfapnjaaGreatDoor
section
open Go.RowKit
variable {G F H:Nat→Prop} {w w':World} {lb mp db mb bx nm:Nat} {ms:List (Int×Sg)} {L L':Lg} {D:Dk} {s:ByteArray}
theorem eQ.split (h:eQ G w lb mp db ms L) {k:Int} {rs:List ByteArray} (hk:aH L.m k=some rs):∃ (A B:List (Int×Sg)) (xa:Option Addr) (xc:Nat),ms=A++(k,⟨xa,xc,rs⟩)::B∧(∀ p∈A,p.1≠k)∧(∀ p∈B,p.1≠k)∧aH ms k=some ⟨xa,xc,rs⟩:=by
 have h1:=h.get k
 rw[hk]at h1
 obtain⟨x,hx,hxr⟩:=Option.map_eq_some_iff.1 h1
 obtain⟨xa,xc,xr⟩:=x
 simp only at hxr
 subst hxr
 have hm:=cG hx
 obtain⟨A,B,rfl⟩:=List.append_of_mem hm
 have hn:((A++(k,(⟨xa,xc,xr⟩:Sg))::B).map (·.1)).Pairwise (fun a b=>a<b):=by rw[← h.keys];exact h.ok.rise
 rw[List.map_append,List.map_cons]at hn
 obtain⟨_,h2,h3⟩:=List.pairwise_append.1 hn
 refine⟨A,B,xa,xc,rfl,fun p hp e=>?_,fun p hp e=>?_,hx⟩
 · have:=h3 p.1 (List.mem_map_of_mem hp) k (by simp);omega
 · have:=(List.pairwise_cons.1 h2).1 p.1 (List.mem_map_of_mem hp);omega
def more (G:Nat→Prop) (v:Value) (q:Nat):Prop:=G q∨v.ownBlock=some q
set_option maxHeartbeats 1000000 in
theorem eQ.lay {A B:List (Int×Sg)} {k:Int} {xa:Option Addr} {xc:Nat} {rs:List ByteArray} {w5 w6 w7:World} {a':Option Addr} {c' n':Nat} {r:ByteArray} (h:eQ G w5 lb mp db (A++(k,⟨xa,xc,rs⟩)::B) L) (hA:∀ p∈A,p.1≠k) (hB:∀ p∈B,p.1≠k)
 (hn:n'=(rs++[r]).length) (hap:Appd eStr w5 w6 0 (.slice xa rs.length xc) (.slice a' n' c') rs [r]) (hm:aL ckZ cvS w7 mp (aG (A++(k,⟨xa,xc,rs⟩)::B) k ⟨a',c',rs++[r]⟩)) (ht:Tn (fun q=>q=mp) w6 w7) (hrs:rs.length+1≤1000000):
 eQ (more G (.slice a' n' c')) w7 lb mp db (A++(k,⟨a',c',rs++[r]⟩)::B) {L with m:=aG L.m k (rs++[r])}∧Tn G w5 w7∧(∀ q,more G (.slice a' n' c') q→G q∨w5.heap.size≤q):=by
 subst hn
 rw[lH hA hB]at hm
 have hx:(k,(⟨xa,xc,rs⟩:Sg))∈A++(k,(⟨xa,xc,rs⟩:Sg))::B:=by simp
 have hxo:=h.off _ hx
 have hxg:=h.gr _ hx
 simp only at hxo hxg
 have hlb:lb<w5.heap.size:=World.block_lt_of_cell? _ _ h.c0
 have hmp:mp<w5.heap.size:=h.lt mp h.gm
 have t1:Tn G w5 w6:=hap.tn.mono (fun q hq=>hxg q hq)
 have t2:Tn G w5 w7:=t1.trans (ht.mono (fun q e=>e▸h.gm))
 have n1:¬ (Value.slice xa rs.length xc).ownBlock=some lb:=fun e=>(hxo lb e).1 rfl
 have n2:¬ lb=mp:=h.ne
 have cl:∀ {o v},w5.cell? ⟨lb,o,none⟩=some v→w7.cell? ⟨lb,o,none⟩=some v:=fun hc=>ht.cell (hap.tn.cell hc n1) n2
 have hnew:∀ q,(Value.slice a' (rs++[r]).length c').ownBlock=some q→(Value.slice xa rs.length xc).ownBlock=some q∨w5.heap.size≤q:=fun q hq=>by
  rcases hap.block with hb|hb
  · exact .inl (hb▸hq)
  · exact .inr (hb q hq)
 have hs:=h.sep
 rw[List.pairwise_append,List.pairwise_cons]at hs
 obtain⟨sA,⟨sx,sB⟩,sAB⟩:=hs
 have oldrow:∀ p∈A++B,(∀ q,p.2.val.ownBlock=some q→(Value.slice xa rs.length xc).ownBlock≠some q)∧(∀ q,p.2.val.ownBlock=some q→q<w5.heap.size)∧bE eStr w5 0 p.2.val p.2.rs∧(∀ q,p.2.val.ownBlock=some q→q≠lb∧q≠mp)∧(∀ q,p.2.val.ownBlock=some q→G q):=fun p hp=>by
  have hpm:p∈A++(k,(⟨xa,xc,rs⟩:Sg))::B:=by
   rcases List.mem_append.1 hp with hp|hp
   · exact List.mem_append_left _ hp
   · exact List.mem_append_right _ (List.mem_cons_of_mem _ hp)
  refine⟨fun q hq=>?_,fun q hq=>h.lt q (h.gr p hpm q hq),h.rows p hpm,h.off p hpm,h.gr p hpm⟩
  rcases List.mem_append.1 hp with hp|hp
  · exact sAB p hp _ List.mem_cons_self q hq
  · exact fun e=>sx p hp q e hq
 have hmL:aG L.m k (rs++[r])=(A.map (fun p=>(p.1,p.2.rs)))++(k,rs++[r])::B.map (fun p=>(p.1,p.2.rs)):=by
  rw[h.eq,List.map_append,List.map_cons]
  exact lH (fun p hp e=>by obtain⟨x,hx,rfl⟩:=List.mem_map.1 hp;exact hA x hx e) (fun p hp e=>by obtain⟨x,hx,rfl⟩:=List.mem_map.1 hp;exact hB x hx e)
 have hkeys:(aG L.m k (rs++[r])).map (·.1)=L.m.map (·.1):=by
  rw[hmL,h.eq];simp
 have hlen:(aG L.m k (rs++[r])).length=L.m.length:=by
  have:=congrArg List.length hkeys
  simpa using this
 refine⟨⟨cl h.c0,cl h.c1,cl h.c2,cl h.c3,cl h.c4,cl h.c5,cl h.c6,cl h.c7,fun j=>(ht.frozen (p:=⟨lb,j,none⟩) (Nat.lt_of_lt_of_le hlb hap.tn.size) n2).trans ((hap.tn.frozen (p:=⟨lb,j,none⟩) hlb n1).trans (h.fz j)),hm,?_,?_,?_,h.ne,?_,.inl h.gl,.inl h.gm,?_,?_,?_⟩,t2,?_⟩
 · show aG L.m k (rs++[r])=_
   rw[hmL,List.map_append,List.map_cons]
 · intro p hp
   rcases List.mem_append.1 hp with hp1|hp1
   · have ho:=oldrow p (List.mem_append_left _ hp1)
     exact ht.row (hap.tn.row ho.2.2.1 (fun q hq e=>ho.1 q hq e)) (fun q hq e=>(ho.2.2.2.1 q hq).2 e)
   · rcases List.mem_cons.1 hp1 with rfl|hp1
     · exact ht.row hap.own (fun q hq e=>by
        rcases hnew q hq with h1|h1
        · exact(hxo q h1).2 e
        · omega)
     · have ho:=oldrow p (List.mem_append_right _ hp1)
       exact ht.row (hap.tn.row ho.2.2.1 (fun q hq e=>ho.1 q hq e)) (fun q hq e=>(ho.2.2.2.1 q hq).2 e)
 · rw[List.pairwise_append,List.pairwise_cons]
   refine⟨sA,⟨fun p hp q hq e=>?_,sB⟩,fun p hp p' hp' q hq e=>?_⟩
   · have ho:=oldrow p (List.mem_append_right _ hp)
     rcases hnew q hq with h1|h1
     · exact ho.1 q e h1
     · have:=ho.2.1 q e;omega
   · rcases List.mem_cons.1 hp' with rfl|hp'
     · have ho:=oldrow p (List.mem_append_left _ hp)
       rcases hnew q e with h1|h1
       · exact ho.1 q hq h1
       · have:=ho.2.1 q hq;omega
     · exact sAB p hp p' (List.mem_cons_of_mem _ hp') q hq e
 · intro p hp q hq
   rcases List.mem_append.1 hp with hp1|hp1
   · exact(oldrow p (List.mem_append_left _ hp1)).2.2.2.1 q hq
   · rcases List.mem_cons.1 hp1 with rfl|hp1
     · rcases hnew q hq with h1|h1
       · exact hxo q h1
       · exact⟨by omega,by omega⟩
     · exact(oldrow p (List.mem_append_right _ hp1)).2.2.2.1 q hq
 · intro p hp q hq
   rcases List.mem_append.1 hp with hp1|hp1
   · exact .inl ((oldrow p (List.mem_append_left _ hp1)).2.2.2.2 q hq)
   · rcases List.mem_cons.1 hp1 with rfl|hp1
     · exact .inr hq
     · exact .inl ((oldrow p (List.mem_append_right _ hp1)).2.2.2.2 q hq)
 · intro q hq
   rcases hq with hq|hq
   · exact Nat.lt_of_lt_of_le (h.lt q hq) t2.size
   · exact Nat.lt_of_lt_of_le (hap.own.lt q hq).2 ht.size
 · refine⟨h.ok.dir,?_,?_,?_,?_,h.ok.op,h.ok.long,h.ok.left,h.ok.size⟩
   · intro p hp
     have h1:p.1∈(aG L.m k (rs++[r])).map (·.1):=List.mem_map_of_mem hp
     rw[hkeys]at h1
     obtain⟨p',hp',e⟩:=List.mem_map.1 h1
     rw[← e]
     exact h.ok.key p' hp'
   · show((aG L.m k (rs++[r])).map (·.1)).Pairwise _
     rw[hkeys]
     exact h.ok.rise
   · show(aG L.m k (rs++[r])).length≤20000
     rw[hlen]
     exact h.ok.few
   · intro p hp
     rcases fC (m:=L.m) (a:=k) (v:=rs++[r]) hp with rfl|hp
     · show(rs++[r]).length≤1000000
       rw[List.length_append];exact hrs
     · exact h.ok.recs p hp
 · intro q hq
   rcases hq with hq|hq
   · exact .inl hq
   · rcases hnew q hq with h1|h1
     · exact .inl (hxg q h1)
     · exact .inr h1
theorem eQ.longer (h:eQ G w lb mp db ms L) {n:Int} (hn:0≤n∧n≤1048576):eQ G (w.setCell ⟨lb,5,none⟩ (.int .i64 n)) lb mp db ms {L with long:=n}:=
 h.upd (Tn.setCell (F:=fun q=>q=lb) w ⟨lb,5,none⟩ _ rfl) (aE h.c0 (by omega)) (aE h.c1 (by omega)) (aE h.c2 (by omega)) (aE h.c3 (by omega)) (aE h.c4 (by omega)) (World.cell?_setCell_same _ _ _ h.c5) (aE h.c6 (by omega)) (aE h.c7 (by omega)) (fun j=>by rw[World.frozen?_setCell];exact h.fz j) rfl ⟨h.ok.dir,h.ok.key,h.ok.rise,h.ok.few,h.ok.recs,h.ok.op,hn,h.ok.left,h.ok.size⟩
def Kept (G F:Nat→Prop) (w w':World) (lb mp db mb:Nat) (e:Ending) (r:Int×Dk×Lg):Prop:=
 e= .returned (.int .i64 r.1)∧∃ G' F':Nat→Prop,aF F' w' db mb r.2.1∧dO G' w' lb mp db r.2.2∧(∀ q,G' q→F' q∧¬ aT db mb q)∧(∀ q,F q→F' q)∧(∀ q,F' q→F q∨w.heap.size≤q)∧(∀ q,G' q→G q∨w.heap.size≤q)∧Tn (fun q=>aT db mb q∨G q) w w'
theorem fW.kept {e:Ending} {r:Int×Dk×Lg} (h:fW G F w w' lb mp db mb e r) (hG:∀ q,G q→F q∧¬ aT db mb q):Kept G F w w' lb mp db mb e r:=by
 obtain⟨h1,h2,h3,h4⟩:=h
 exact⟨h1,G,F,h2,h3,hG,fun _ h=>h,fun _ h=> .inl h,fun _ h=> .inl h,h4⟩
end
section
open Go.RowKit
variable {G F H:Nat→Prop} {w w':World} {lb mp db mb bx nm:Nat} {ms:List (Int×Sg)} {L L':Lg} {D:Dk} {s r:ByteArray}
theorem begin_ok (hon:D.on=true) (hk:(L.begin_ D).1=0):(L.begin_ D).2.2={L with m:=aG L.m (L.last+1) [],op:=L.last+1,long:=0}∧(L.begin_ D).2.1.on=true∧(L.begin_ D).2.1.acts≤D.acts+1∧L.last+1≤4294967295:=by
 unfold Lg.begin_ at hk ⊢
 by_cases h1:4294967295<L.last+1
 · rw[if_pos h1]at hk;simp at hk
 · rw[if_neg h1]at hk ⊢
   simp only at hk ⊢
   by_cases h2:(D.create (cD L.dir (L.last+1))).1≠0
   · rw[if_pos h2]at hk;exact absurd hk h2
   · rw[if_neg h2]at hk ⊢
     have:=(jZ D hon (cD L.dir (L.last+1))).go (by omega)
     exact⟨rfl,this.1,this.2,by omega⟩
theorem rotate_ok (hon:D.on=true) (hk:(L.rotate D).1=0):(L.rotate D).2.2={(L.mended D).2.2 with op:=0,long:=0}∧(L.rotate D).2.1.on=true∧(L.rotate D).2.1.acts≤D.acts+7:=by
 unfold Lg.rotate at hk ⊢
 simp only at hk ⊢
 by_cases h1:(L.mended D).1≠0
 · rw[if_pos h1]at hk;exact absurd hk h1
 · rw[if_neg h1]at hk ⊢
   have hm:=mended_on (L:=L) hon (by omega)
   by_cases h2:((L.mended D).2.2.sync (L.mended D).2.1).1≠0
   · rw[if_pos h2]at hk;exact absurd hk h2
   · rw[if_neg h2]at hk ⊢
     have hs:((L.mended D).2.2.sync (L.mended D).2.1).2.on=true∧((L.mended D).2.2.sync (L.mended D).2.1).2.acts≤(L.mended D).2.1.acts+1:=by
      unfold Lg.sync at h2 ⊢
      by_cases h3:(L.mended D).2.2.op=0
      · rw[if_pos h3];exact⟨hm.1,by show(L.mended D).2.1.acts≤_;omega⟩
      · rw[if_neg h3]at h2 ⊢
        exact(sync_on _ hm.1 _).go (by omega)
     exact⟨rfl,hs.1,Nat.le_trans hs.2 (by have:=hm.2;omega)⟩
theorem mended_fields (L:Lg) (D:Dk) {k:Int} {D1:Dk} {L1:Lg} (h:L.mended D=(k,D1,L1)):L1.dir=L.dir∧L1.size=L.size∧L1.m=L.m∧L1.op=L.op∧L1.long=L.long:=by
 have:=mended_keep L D
 rw[h]at this
 rcases this with e|e<;>simp only at e<;>subst e<;>exact⟨rfl,rfl,rfl,rfl,rfl⟩
def Lg.fin (L:Lg) (D:Dk) (r:ByteArray):Int×Dk×Lg:=
 let c:=if L.op=0 then L.begin_ D else(0,D,L)
 if c.1≠0 then c else c.2.2.lay c.2.1 r
theorem append_eq0 (hr:r.size≤131072) {k:Int} {D1:Dk} {L1:Lg} (h1:L.mended D=(k,D1,L1)) (hk:k≠0):L.append D r=(k,D1,L1):=by
 unfold Lg.append
 rw[if_neg (by omega),h1]
 simp only
 rw[if_pos hk]
theorem append_eq1 (hr:r.size≤131072) {D1:Dk} {L1:Lg} (h1:L.mended D=(0,D1,L1)) (hf:L1.full r=false):L.append D r=L1.fin D1 r:=by
 unfold Lg.append Lg.fin
 rw[if_neg (by omega),h1]
 simp[hf]
theorem append_eq2 (hr:r.size≤131072) {D1 D3:Dk} {L1 L3:Lg} {k:Int} (h1:L.mended D=(0,D1,L1)) (hf:L1.full r=true) (hb:L1.rotate D1=(k,D3,L3)):L.append D r=if k≠0 then(k,D3,L3)else L3.fin D3 r:=by
 unfold Lg.append Lg.fin
 rw[if_neg (by omega),h1]
 simp[hf,hb]
theorem fin_eq0 (h:L.op=0) {D1:Dk} {L1:Lg} {k:Int} (hb:L.begin_ D=(k,D1,L1)):L.fin D r=if k≠0 then(k,D1,L1)else L1.lay D1 r:=by
 unfold Lg.fin
 rw[if_pos h,hb]
theorem fin_eq1 (h:L.op≠0):L.fin D r=L.lay D r:=by
 unfold Lg.fin
 rw[if_neg h]
 rfl
theorem lay_eq {k:Int} {D2:Dk} {nz:Nat} (ho:L.op=(nz:Int)) (h:D.app (aV L.dir nz) (aQ r)=(k,D2)) {rs:List ByteArray} (hg:aH L.m L.op=some rs):L.lay D r=if k≠0 then(k,D2,L)else(0,D2,{L with long:=L.long+(aQ r).size,m:=aG L.m L.op (rs++[r])}):=by
 unfold Lg.lay Lg.at_
 rw[hg]
 have hz:cD L.dir L.op=aV L.dir nz:=by unfold cD;rw[ho];rfl
 rw[hz,h]
 rfl
set_option maxRecDepth 100000 in
set_option maxHeartbeats 8000000 in
theorem w_append (hlo:dO G w lb mp db L) (hd:aF F w db mb D) (hG:∀ q,G q→F q∧¬ aT db mb q) (hon:D.on=true) (ha:D.acts+60≤1000000) {n:Nat} (hn:n<4294967296) (hlast:L.last=(n:Int)) (hfew:L.m.length<20000) (r:ByteArray) (hr:r.size≤131072)
 (hopk:L.op≠0→∃ rs,aH L.m L.op=some rs) (hrec:∀ p∈L.m,p.2.length+1≤1000000) (hlong:L.long≤900000):
 Calls Tryz.prog 150 #[.pointer (some ⟨lb,0,none⟩),.string r] w fun e w'=>Kept G F w w' lb mp db mb e (L.append D r):=by
 have hnone:=w_none hlo
 have hm:=w_mended hlo hd hG hon (by omega) hn hlast
 have hmo:=mended_on (L:=L) hon
 obtain⟨a,hA⟩:∃ a,L.mended D=a:=⟨_,rfl⟩
 rw[hA]at hm hmo
 obtain⟨k,D1,L1⟩:=a
 have hmf:=mended_fields L D hA
 simp only at hmo
 obtain⟨ms0,hm0⟩:=hlo
 have hd40:L.dir.size≤40:=hm0.ok.dir
 have hop0:=hm0.ok.op
 have hlg0:=hm0.ok.long
 have hsz0:=hm0.ok.size
 obtain⟨dir,hdir⟩:∃ dir,L.dir=dir:=⟨_,rfl⟩
 rw[hdir]at hd40
 obtain⟨fr,hfr⟩:∃ fr,aQ r=fr:=⟨_,rfl⟩
 obtain⟨fs,hfs⟩:∃ fs,fr.size=fs:=⟨_,rfl⟩
 have hfs2:fs=8+r.size:=by rw[← hfs,←hfr,fE]
 have hfrs:fr.size≤140737488351232:=by rw[hfs];omega
 have hrs0:r.size≤140737488351232:=by omega
 have hfs3:fs≤131080:=by omega
 have hF:∀ W,Calls Tryz.prog 240 #[.string r] W fun e w'=>e= .returned (.string fr)∧Below W.heap.size W w':=fun W=>by rw[← hfr];exact w_framed r (by omega) W
 have HG:=aB hG
 have HA:=aB (aA hA (aA hmo hmf))
 have HM:=aB hm
 have HL:=aB (aA hlast (aA hfew (aA hopk (aA hrec (aA hdir (aA hfr (aA hr hm0)))))))
 have HFS:=aB (aA hfs hfs2)
 have HN:=aB hn
 have tr:¬ (131072:Int)<(r.size:Int):=by omega
 clear hd hG hA hm hmo hmf hm0 hlast hfew hopk hrec hdir hfr hn hfs2 hr
 go_enter Tryz.func150,Tryz.ntmps150
 go_wp2_with (go_at_call 156;go_loud (refine hnone.mono ?_);rintro e w2 ⟨rfl,rfl⟩)
 refine HM.out.mono ?_
 rintro e w1 ⟨rfl,hd1,hl1,ht1⟩
 simp only at hd1 hl1
 clear hnone
 by_cases h0:k=0
 · subst h0
   have on1:=(HA.out.2.1 rfl).1
   have ac1:=(HA.out.2.1 rfl).2
   go_wp2_with fail
   refine(hF _).mono ?_
   rintro e w2 ⟨rfl,hb2⟩
   have hl2:=hl1.below hb2
   have hd2:=hd1.below hb2
   have ht2:Tn (fun q=>aT db mb q∨G q) w w2:=ht1.trans (Tn.ofBelow hb2)
   have H2:=aB (aA hl2 (aA hd2 ht2))
   obtain⟨ms2,hm2⟩:=hl2
   have c2:=hm2.c2
   have c4:=hm2.c4
   have c5:=hm2.c5
   rw[HA.out.2.2.2.1]at c2
   rw[HA.out.2.2.2.2.2.1]at c4
   rw[HA.out.2.2.2.2.2.2]at c5
   obtain⟨lz,hlz⟩:∃ lz,L.long=lz:=⟨_,rfl⟩
   obtain⟨sz,hsz⟩:∃ sz,L.size=sz:=⟨_,rfl⟩
   obtain⟨oz,hoz⟩:∃ oz:Nat,L.op=(oz:Int):=⟨L.op.toNat,by omega⟩
   rw[hsz]at c2 hsz0
   rw[hoz]at c4 hop0
   rw[hlz]at c5 hlg0 hlong
   have hfull:L1.full r=(decide (0<(oz:Int))&&decide (0<lz)&&decide (sz<lz+(fs:Int))):=by
    unfold Lg.full
    rw[HA.out.2.2.2.1,HA.out.2.2.2.2.2.1,HA.out.2.2.2.2.2.2,HL.out.2.2.2.2.2.1,HFS.out.1,hoz,hlz,hsz]
   have HO:=aB (aA hlz (aA hsz (aA hoz hfull)))
   have HOP:=aB hop0
   have e1:IntKind.i64.wrap (lz+(fs:Int))=lz+(fs:Int):=IntWalk.i64_in _ (by omega)
   have HE1:=aB e1
   clear hb2 hm2 hd2 ht2 hl1 hd1 ht1 hlz hsz hoz hfull hF hop0 e1
   obtain⟨fb,hfb⟩:∃ fb,(decide (0<(oz:Int))&&decide (0<lz)&&decide (sz<lz+(fs:Int)))=fb:=⟨_,rfl⟩
   have HFB:=aB hfb
   clear hfb
   go_upto_region 9 with fail
   go_cut [49] (fun b wx=>b= .bool fb∧Below w2.heap.size w2 wx)
   case first=>
    by_cases g1:0<oz
    · have d1:decide (0<(oz:Int))=true:=by simp;omega
      by_cases g2:0<lz
      · have d2:decide (0<lz)=true:=by simp;omega
        have e1:=HE1.out
        by_cases g3:sz<lz+(fs:Int)
        · have d3:decide (sz<lz+(fs:Int))=true:=by simp;omega
          go_quiet (fail)
          go_wp2
          go_meet
          case rel=>exact⟨by rw[← HFB.out,d1,d2,d3];rfl,below_drewN (Below.refl _ _) _⟩
        · have d3:decide (sz<lz+(fs:Int))=false:=by simp;omega
          go_quiet (fail)
          go_wp2
          go_meet
          case rel=>exact⟨by rw[← HFB.out,d1,d2,d3];rfl,below_drewN (Below.refl _ _) _⟩
      · have d2:decide (0<lz)=false:=by simp;omega
        go_quiet (fail)
        go_wp2
        go_meet
        case rel=>exact⟨by rw[← HFB.out,d1,d2];rfl,below_drewN (Below.refl _ _) _⟩
    · have d1:decide (0<(oz:Int))=false:=by simp;omega
      go_quiet (fail)
      go_wp2
      go_meet
      case rel=>exact⟨by rw[← HFB.out,d1];rfl,below_drewN (Below.refl _ _) _⟩
   case rest=>
    obtain⟨rfl,hbq⟩:=hcut
    rename World=>wq
    have H2q:=aB (aA (H2.out.1.below hbq) (aA (H2.out.2.1.below hbq) (H2.out.2.2.trans (Tn.ofBelow hbq))))
    have HFU:Hid (L1.full r=fb):=by unfold Hid;rw[HO.out.2.2.2];exact HFB.out
    clear hbq c2 c4 c5 H2
    go_upto_if 49 with fail
    go_cut [] (fun wx=>∃ (Lx:Lg) (Dx:Dk),(dO G wx lb mp db Lx∧aF F wx db mb Dx∧Tn (fun q=>aT db mb q∨G q) w wx)∧L.append D r=Lx.fin Dx r∧Lx.m=L.m∧Lx.dir=dir∧Dx.on=true∧Dx.acts≤D.acts+20∧(Lx.op=0∨(Lx.op=(oz:Int)∧oz≠0∧Lx.long=lz)))
    case first=>
     cases fb with
     |false=>
      go_wp2
      go_meet
      case rel=>
       refine⟨L1,D1,H2q.out,append_eq1 HL.out.2.2.2.2.2.2.1 HA.out.1 HFU.out,HA.out.2.2.2.2.1,by rw[HA.out.2.2.1];exact HL.out.2.2.2.2.1,on1,by omega,?_⟩
       by_cases h:oz=0
       · exact .inl (by rw[HA.out.2.2.2.2.2.1,HO.out.2.2.1,h];rfl)
       · exact .inr ⟨by rw[HA.out.2.2.2.2.2.1,HO.out.2.2.1],h,by rw[HA.out.2.2.2.2.2.2,HO.out.1]⟩
     |true=>
      obtain⟨rt,hrt⟩:∃ rt,L1.rotate D1=rt:=⟨_,rfl⟩
      have hrok:=rotate_ok (L:=L1) (D:=D1) on1
      have hl1n:L1.last=(n:Int):=by unfold Lg.last;rw[HA.out.2.2.2.2.1];exact HL.out.1
      have hrw:=w_rotate H2q.out.1 H2q.out.2.1 HG.out on1 (by omega) HN.out hl1n
      rw[hrt]at hrw hrok
      obtain⟨kr,D3,L3⟩:=rt
      simp only at hrok
      have HRW:=aB (aA hrw (aA hrt hrok))
      clear hrw hrt hrok hl1n
      go_wp2_with fail
      refine HRW.out.1.mono ?_
      rintro e w3 ⟨rfl,hd3,hl3,ht3⟩
      simp only at hd3 hl3
      have H3x:=aB (aA hl3 (aA hd3 (H2q.out.2.2.trans ht3)))
      have HAP:Hid (L.append D r=if kr≠0 then(kr,D3,L3)else L3.fin D3 r):=append_eq2 HL.out.2.2.2.2.2.2.1 HA.out.1 HFU.out HRW.out.2.1
      clear hd3 hl3 ht3
      by_cases hr0:kr=0
      · subst hr0
        go_wp2
        go_meet
        case rel=>
         obtain⟨hL3,onb,acb⟩:=HRW.out.2.2 (by first|rfl|trivial)
         have hf3:=mended_keep L1 D1
         have hL3f:L3.m=L1.m∧L3.op=0∧L3.dir=L1.dir:=by
          rw[hL3]
          rcases hf3 with e|e<;>rw[e]<;>exact⟨rfl,rfl,rfl⟩
         exact⟨L3,D3,H3x.out,HAP.out,hL3f.1.trans HA.out.2.2.2.2.1,by rw[hL3f.2.2,HA.out.2.2.1];exact HL.out.2.2.2.2.1,onb,by omega,.inl hL3f.2.1⟩
      · have tr0:(kr != 0)=true:=by simpa using hr0
        have HR0:=aB hr0
        clear hr0
        go_wp2
        go_ret
        rw[HAP.out,if_pos HR0.out]
        exact fW.kept ⟨rfl,H3x.out.2.1,H3x.out.1,H3x.out.2.2⟩ HG.out
    case rest=>
     obtain⟨Lx,Dx,hx,hax,hxm,hxd,onb,acx,hxo⟩:=hcut
     rename World=>wy
     have LST:Hid (Lx.last=(n:Int)∧Lx.m.length<20000):=⟨by unfold Lg.last;rw[hxm];exact HL.out.1,by rw[hxm];exact HL.out.2.1⟩
     have HX:=aB (aA hx (aA hax (aA hxm (aA hxd hxo))))
     obtain⟨ox,hox⟩:∃ ox,Lx.op=ox:=⟨_,rfl⟩
     have c4:wy.cell? ⟨lb,4,none⟩=some (.int .i64 ox):=by obtain⟨msx,hmx⟩:=hx.1;rw[← hox];exact hmx.c4
     have HOX:=aB hox
     clear hx hax hxm hxd hxo hox H2q HFU HFB
     go_upto_if 59 with fail
     go_cut [] (fun wx=>∃ (Lz:Lg) (Dz:Dk) (nz:Nat) (rs:List ByteArray) (lz2:Int),(dO G wx lb mp db Lz∧aF F wx db mb Dz∧Tn (fun q=>aT db mb q∨G q) w wx)∧L.append D r=Lz.lay Dz r∧(Lz.op=(nz:Int)∧aH Lz.m Lz.op=some rs∧rs.length+1≤1000000∧Lz.long=lz2∧Lz.dir=dir)∧Dz.on=true∧Dz.acts<1000000∧nz<4294967296∧0≤lz2∧lz2≤900000)
     case first=>
      by_cases h0:ox=0
      · have x0:(ox == 0)=true:=by rw[h0];rfl
        obtain⟨bg,hbg⟩:∃ bg,Lx.begin_ Dx=bg:=⟨_,rfl⟩
        have hbok:=begin_ok (L:=Lx) (D:=Dx) onb
        have hbw:=w_begin HX.out.1.1 HX.out.1.2.1 HG.out onb (by omega) HN.out LST.out.1 LST.out.2
        rw[hbg]at hbw hbok
        obtain⟨kb,D4,L4⟩:=bg
        simp only at hbok
        have HAP:Hid (L.append D r=if kb≠0 then(kb,D4,L4)else L4.lay D4 r):=HX.out.2.1.trans (fin_eq0 (HOX.out.trans h0) hbg)
        have HBW:=aB hbw
        have HBG:=aB hbok
        clear hbw hbg hbok h0 c4
        go_wp2_with fail
        refine HBW.out.mono ?_
        rintro e w4 ⟨rfl,hd4,hl4,ht4⟩
        simp only at hd4 hl4
        have HZ:=aB (aA hl4 (aA hd4 (HX.out.1.2.2.trans ht4)))
        clear hd4 hl4 ht4
        by_cases hb0:kb=0
        · subst hb0
          go_wp2
          go_meet
          case rel=>
           obtain⟨hL4,onz,acz0,hmx⟩:=HBG.out (by first|rfl|trivial)
           have hne4:∀ p∈Lx.m,p.1≠Lx.last+1:=by
            obtain⟨msx,hmx2⟩:=HX.out.1.1
            intro p hp e
            have:=gO hmx2.ok p hp
            omega
           rw[LST.out.1]at hmx
           refine⟨L4,D4,n+1,[],0,HZ.out,HAP.out,⟨by rw[hL4];show Lx.last+1=_;rw[LST.out.1];rfl,?_,by decide,by rw[hL4],by rw[hL4];exact HX.out.2.2.2.1⟩,onz,by omega,by omega,by omega,by omega⟩
           rw[hL4]
           show aH (aG Lx.m (Lx.last+1) []) (Lx.last+1)=_
           rw[fM hne4,cQ hne4,gR]
        · have tb:(kb != 0)=true:=by simpa using hb0
          have HB0:=aB hb0
          clear hb0
          go_wp2
          go_ret
          rw[HAP.out,if_pos HB0.out]
          exact fW.kept ⟨rfl,HZ.out.2.1,HZ.out.1,HZ.out.2.2⟩ HG.out
      · have x0:(ox == 0)=false:=beq_eq_false_iff_ne.2 h0
        have H0:=aB h0
        clear h0
        go_wp2
        go_meet
        case rel=>
         have hne:Lx.op≠0:=by rw[HOX.out];exact H0.out
         obtain⟨h1,h2,h3⟩:=HX.out.2.2.2.2.resolve_left hne
         have hop:Lx.op=L.op:=h1.trans HO.out.2.2.1.symm
         obtain⟨rs,hrsx⟩:=HL.out.2.2.1 (by rw[← hop];exact hne)
         have:=HOP.out
         refine⟨Lx,Dx,oz,rs,lz,HX.out.1,HX.out.2.1.trans (fin_eq1 hne),⟨h1,by rw[HX.out.2.2.1,hop];exact hrsx,HL.out.2.2.2.1 _ (cG hrsx),h3,HX.out.2.2.2.1⟩,onb,by omega,by omega,hlg0.1,hlong⟩
     case rest=>
      obtain⟨Lz,Dz,nz,rs,lz2,hz,haz,hkz,onz,acz,hnz,lz0,lz1⟩:=hcut
      rename World=>wz
      have HZ:=aB hz
      have HAP:=aB haz
      have HKZ:=aB (aA hkz.1 (aA hkz.2.1 (aA hkz.2.2.1 (aA hkz.2.2.2.1 (aA hkz.2.2.2.2 (aA HL.out.2.2.2.2.2.1 HFS.out.1))))))
      have HNZ:=aB hnz
      clear hz haz hkz hnz HX HOX LST c4
      obtain⟨msz,hmz⟩:=HZ.out.1
      obtain⟨A,B,xa,xc,rfl,hA,hB,hgx⟩:=hmz.split HKZ.out.2.1
      rw[HKZ.out.1]at hmz hA hB hgx
      have z0:=hmz.c0
      have z1:=hmz.c1
      have z4:=hmz.c4
      have z5:=hmz.c5
      have z3:=hmz.c3
      have zf5:=hmz.fz 5
      rw[HKZ.out.1]at z4
      rw[HKZ.out.2.2.2.1]at z5
      rw[HKZ.out.2.2.2.2.1]at z1
      obtain⟨d,hdd⟩:∃ d,Dz.app (aV dir nz) fr=d:=⟨_,rfl⟩
      obtain⟨kd,D9⟩:=d
      have hlay:=lay_eq (L:=Lz) (D:=Dz) (r:=r) (k:=kd) (D2:=D9) (nz:=nz) HKZ.out.1 (by rw[HKZ.out.2.2.2.2.1,HKZ.out.2.2.2.2.2.1];exact hdd) HKZ.out.2.1
      rw[← HAP.out]at hlay
      have HLY:=aB (aA hlay hdd)
      have HMZ:=aB (aA hmz (aA hA (aA hB hgx)))
      obtain⟨xl,hxl⟩:∃ xl,rs.length=xl:=⟨_,rfl⟩
      have HXL:=aB hxl
      have glz:=HG.out lb hmz.gl
      have gmz:=HG.out mp hmz.gm
      clear hlay hdd hmz hA hB hgx hxl
      go_wp2_with fail
      refine dQ (fun w'=>w'.cell? ⟨lb,0,none⟩=some (.pointer (some ⟨db,0,none⟩))∧w'.cell? ⟨lb,4,none⟩=some (.int .i64 (nz:Int))) 12 13 ⟨z0,z4⟩ (fun hH=>?_)
      refine bU [[0],[1],[2],[3],[4],[5],[6],[7],[8],[10]] hH ?_
      refine bM (i:=9) rfl (fun K hK=>?_)
      go_simp
      go_at_call 158
      have z1d:wz.drew.cell? ⟨lb,1,none⟩=some (.string dir):=z1
      with_reducible refine(w_name (lb:=lb) hd40 nz HNZ.out z1d).mono ?_
      rintro e y2 ⟨rfl,hb2⟩
      have hb02:=(Below.refl _ _).drew.trans hb2
      have kd2:=aA ((hb2.cell (p:=⟨lb,0,none⟩) (World.block_lt_of_cell? _ _ z0)).trans z0) ((hb2.cell (p:=⟨lb,4,none⟩) (World.block_lt_of_cell? _ _ z4)).trans z4)
      have hd2:=HZ.out.2.1.below hb02
      have hm2:=HMZ.out.1.tn (Tn.ofBelow (F:=fun _=>False) hb02) (fun _ _ h=>h)
      have H2:=aB (aA hb02 (aA hd2 hm2))
      obtain⟨sg,hsg⟩:∃ sg,aV dir nz=sg:=⟨_,rfl⟩
      have hszg:sg.size≤140737488351232:=by rw[← hsg,bC,cN,List.length_append,List.length_append,hexF_len,←bC];simp;omega
      have HSG:=aB hsg
      rw[hsg]
      clear hb2 hb02 hd2 hm2 hsg
      refine bH hK kd2 ?_
      clear hK K
      intro hH
      refine bM (i:=11) rfl (fun K hK=>?_)
      go_simp
      go_at_call 163
      with_reducible refine(kX H2.out.2.1 onz acz sg fr hszg hfrs).mono ?_
      rw[← HSG.out,HLY.out.2]
      rintro e y3 ⟨rfl,hd3,ht3⟩
      simp only at hd3
      have kd3:=aA (ht3.cell kd2.1 glz.2) (ht3.cell kd2.2 glz.2)
      have hm3:=H2.out.2.2.tn ht3 (fun q hq h=>(HG.out q hq).2 h)
      have y35:=hm3.c5
      rw[HKZ.out.2.2.2.1]at y35
      have yf5:=hm3.fz 5
      have ht03:Tn (fun q=>aT db mb q∨G q) w y3:=HZ.out.2.2.trans (iU ((Tn.ofBelow H2.out.1).trans ht3))
      have H3:=aB (aA hd3 (aA hm3 ht03))
      clear hd3 ht3 hm3 ht03
      refine bH hK kd3 ?_
      clear hK K
      intro hH
      refine eU ?_
      clear hH kd2 kd3 z0 z1 z3 z4 z5 zf5 z1d
      by_cases h9:kd=0
      · subst h9
        have HLY2:Hid (L.append D r=(0,D9,{Lz with long:=Lz.long+(aQ r).size,m:=aG Lz.m Lz.op (rs++[r])})):=by unfold Hid;rw[HLY.out.1];rfl
        obtain⟨W8,hW8⟩:∃ W8,y3.setCell ⟨lb,5,none⟩ (.int .i64 (lz2+(fs:Int)))=W8:=⟨_,rfl⟩
        have hm8:=H3.out.2.1.longer (n:=lz2+(fs:Int)) ⟨by omega,by omega⟩
        rw[hW8]at hm8
        have t38:Tn (fun q=>q=lb) y3 W8:=by rw[← hW8];exact Tn.setCell _ _ _ rfl
        have v0:=hm8.c0
        have v3:=hm8.c3
        have v4:=hm8.c4
        have lk8:(Instr.lookup tSeg (.map (some mp)) (.int .i64 (nz:Int)) false).run Tryz.prog W8= .ok (.slice xa xl xc) W8:=by
         have h5:=aL.look hm8.mpl keyZ und_seg (gH _) false (nz:Int)
         rw[HMZ.out.2.2.2]at h5
         rw[← HXL.out]
         exact h5
        rw[show({Lz with long:=lz2+(fs:Int)}:Lg).op=(nz:Int) from HKZ.out.1]at v4
        have H8:=aB (aA hm8 (aA t38 hW8))
        clear hm8 t38
        go_wp2
        have vd:W8.drew.cell? ⟨lb,3,none⟩=some (.map (some mp))∧W8.drew.cell? ⟨lb,4,none⟩=some (.int .i64 (nz:Int))∧(Instr.lookup tSeg (.map (some mp)) (.int .i64 (nz:Int)) false).run Tryz.prog W8.drew= .ok (.slice xa xl xc) W8.drew:=by
         refine⟨v3,v4,?_⟩
         have h5:=aL.look (aL.below H8.out.1.mpl (Below.refl _ _).drew) keyZ und_seg (gH _) false (nz:Int)
         rw[HMZ.out.2.2.2]at h5
         rw[← HXL.out]
         exact h5
        clear hW8
        refine dQ (fun w'=>w'.cell? ⟨lb,3,none⟩=some (.map (some mp))∧w'.cell? ⟨lb,4,none⟩=some (.int .i64 (nz:Int))∧(Instr.lookup tSeg (.map (some mp)) (.int .i64 (nz:Int)) false).run Tryz.prog w'= .ok (.slice xa xl xc) w') 21 22 vd (fun hH=>?_)
        refine bU [[0],[1],[2],[3],[4],[5],[6],[7],[8],[9],[10],[11],[12],[13],[14],[15],[16],[17]] hH ?_
        refine bM (i:=18) rfl (fun K hK=>?_)
        go_simp
        go_at_call 31
        with_reducible refine(cB _ r hrs0).mono ?_
        rintro e y4 ⟨rfl,hb4⟩
        have hb84:=(Below.refl _ _).drew.trans hb4
        have lkb:∀ y,Below W8.heap.size W8 y→(Instr.lookup tSeg (.map (some mp)) (.int .i64 (nz:Int)) false).run Tryz.prog y= .ok (.slice xa xl xc) y:=fun y hy=>by
         have h5:=aL.look (aL.below H8.out.1.mpl hy) keyZ und_seg (gH _) false (nz:Int)
         rw[HMZ.out.2.2.2]at h5
         rw[← HXL.out]
         exact h5
        have hlb8:=World.block_lt_of_cell? _ _ v3
        have vd4:=aA ((hb84.cell (p:=⟨lb,3,none⟩) hlb8).trans v3) (aA ((hb84.cell (p:=⟨lb,4,none⟩) hlb8).trans v4) (lkb y4 hb84))
        have H4:=aB (aA hb84 lkb)
        clear hb4 hb84 lkb
        refine bH hK vd4 ?_
        clear hK K
        intro hH
        refine bM (i:=19) rfl (fun K hK=>?_)
        go_simp
        obtain⟨y5,hy5⟩:∃ y5,y5=y4.alloc (.cells #[.string r] 9):=⟨_,rfl⟩
        have hb85:Below W8.heap.size W8 y5:=by rw[hy5];exact H4.out.1.alloc H4.out.1.size _
        have hsrc:Src eStr y5 (.slice (some ⟨y4.heap.size,0,none⟩) 1 1) [r]:=by rw[hy5];exact eW y4 r _ _ rfl 1
        have hm5:=H8.out.1.tn (Tn.ofBelow (F:=fun _=>False) hb85) (fun _ _ h=>h)
        have vd5:=aA ((hb85.cell (p:=⟨lb,3,none⟩) hlb8).trans v3) (aA ((hb85.cell (p:=⟨lb,4,none⟩) hlb8).trans v4) (H4.out.2 y5 hb85))
        have hrow5:bE eStr y5 0 (.slice xa xl xc) rs:=by
         have h5:=hm5.rows ((nz:Int),(⟨xa,xc,rs⟩:Sg)) (by simp)
         rw[← HXL.out]
         exact h5
        have H5:=aB (aA hm5 (aA hsrc (aA hrow5 hb85)))
        rw[← hy5]
        clear hb85 hsrc hm5 hrow5 hy5
        refine bH hK vd5 ?_
        clear hK K
        intro hH
        refine bM (i:=20) rfl (fun K hK=>?_)
        refine step_app2 eStr rfl _ _ rfl rfl rfl H5.out.2.2.1 H5.out.2.1 (by have:=HKZ.out.2.2.1;simp;omega) (Nat.zero_le _) ?_
        rw[HXL.out]
        intro a6 cap6 y6 hap'
        have hap:Appd eStr y5 y6 0 (.slice xa xl xc) (.slice a6 (xl+1) cap6) rs [r]:=hap'
        have hx5:∀ q,(Value.slice xa xl xc).ownBlock=some q→q≠lb∧q≠mp:=fun q hq=>H5.out.1.off ((nz:Int),(⟨xa,xc,rs⟩:Sg)) (by simp) q (by show(Value.slice xa rs.length xc).ownBlock=some q;rw[HXL.out];exact hq)
        have nb5:¬ (Value.slice xa xl xc).ownBlock=some lb:=fun e=>(hx5 lb e).1 rfl
        have hmp6:=aL.tn H5.out.1.mpl hap.tn (fun e=>(hx5 mp e).2 rfl)
        have lk6:(Instr.lookup tSeg (.map (some mp)) (.int .i64 (nz:Int)) false).run Tryz.prog y6= .ok (.slice xa xl xc) y6:=by
         have h5:=aL.look hmp6 keyZ und_seg (gH _) false (nz:Int)
         rw[HMZ.out.2.2.2]at h5
         rw[← HXL.out]
         exact h5
        have vd6:=aA (hap.tn.cell vd5.1 nb5) (aA (hap.tn.cell vd5.2.1 nb5) lk6)
        obtain⟨y7,hrun,hm7,ht7,hz7⟩:=aL.put hmp6 keyZ und_seg (nz:Int) (⟨a6,cap6,rs++[r]⟩:Sg)
        have hrun':(Instr.mapUpdate tSeg (.map (some mp)) (.int .i64 (nz:Int)) (.slice a6 (xl+1) cap6)).run Tryz.prog y6= .ok () y7:=by
         have:cvS (⟨a6,cap6,rs++[r]⟩:Sg)= .slice a6 (xl+1) cap6:=by
          show Value.slice a6 (rs++[r]).length cap6=_
          rw[List.length_append,HXL.out];rfl
         rw[this]at hrun
         exact hrun
        have H7:=aB (aA hap (aA hm7 ht7))
        clear hap hap' hmp6 lk6 hrun hm7 ht7 hz7
        refine bH hK vd6 ?_
        clear hK K
        intro hH
        refine eU ?_
        clear hH vd vd4 vd5 vd6 v0 v3 v4 lk8 hrun'
        go_wp2_with fail
        go_ret
        unfold Kept
        rw[HLY2.out]
        obtain⟨hlm,tg,hmq⟩:=eQ.lay (G:=G) (xa:=xa) (xc:=xc) (rs:=rs) (r:=r) (n':=xl+1) (a':=a6) (c':=cap6) H5.out.1 HMZ.out.2.1 HMZ.out.2.2.1 (by rw[List.length_append,HXL.out];rfl) (by rw[HXL.out];exact H7.out.1) H7.out.2.1 H7.out.2.2 HKZ.out.2.2.1
        have t35:Tn (fun q=>q=lb) y3 y5:=H8.out.2.1.trans (Tn.ofBelow H5.out.2.2.2)
        have h35:y3.heap.size≤y5.heap.size:=t35.size
        have hw3:=H3.out.2.2.size
        have gfl:∀ q,G q→F q∧¬ aT db mb q:=HG.out
        have hd5:=H3.out.1.frame t35 (fun q _ e=>by subst e;exact⟨glz.1,fun e=>glz.2 (.inl e),fun e=>glz.2 (.inr e)⟩)
        have hmore:∀ q,more G (.slice a6 (xl+1) cap6) q→F q∨y5.heap.size≤q:=fun q hq=>(hmq q hq).imp (fun h=>(gfl q h).1) id
        have hd7:aF (fun q=>F q∨more G (.slice a6 (xl+1) cap6) q) y7 db mb D9:=hd5.widen (H:=G) tg (fun q _ h=>gfl q h) (fun q h=> .inl h) (fun q h=>h.elim .inl (hmore q)) (fun q h=>h.elim (fun h=>Nat.lt_of_lt_of_le (hd5.lt q h) tg.size) (hlm.lt q))
        refine⟨rfl,more G (.slice a6 (xl+1) cap6),_,hd7,⟨A++((nz:Int),⟨a6,cap6,rs++[r]⟩)::B,?_⟩,fun q hq=>⟨.inr hq,fun h2=>?_⟩,fun q h=> .inl h,fun q h=>?_,fun q hq=>?_,?_⟩
        · have e1:({({Lz with long:=lz2+(fs:Int)}:Lg)with m:=aG ({Lz with long:=lz2+(fs:Int)}:Lg).m (nz:Int) (rs++[r])}:Lg)={Lz with long:=Lz.long+(aQ r).size,m:=aG Lz.m Lz.op (rs++[r])}:=by
           rw[HKZ.out.1,HKZ.out.2.2.2.1,HKZ.out.2.2.2.2.2.1,HKZ.out.2.2.2.2.2.2]
          rw[← e1]
          exact hlm
        · rcases hmq q hq with h|h
          · exact(gfl q h).2 h2
          · have:=hd5.ltd
            have:=hd5.m.lt
            rcases h2 with rfl|rfl<;>omega
        · rcases h with h|h
          · exact .inl h
          · exact(hmore q h).imp id (fun h=>by omega)
        · exact(hmq q hq).imp id (fun h=>by omega)
        · exact H3.out.2.2.trans (((t35.mono (fun q e=>by subst e;exact .inr H5.out.1.gl))).trans (tg.mono (fun q h=> .inr h)))
      · have t9:(kd != 0)=true:=by simpa using h9
        have HLY2:Hid (L.append D r=(kd,D9,Lz)):=by unfold Hid;rw[HLY.out.1,if_pos h9]
        clear h9 y35 yf5
        go_wp2
        go_ret
        rw[HLY2.out]
        exact fW.kept ⟨rfl,H3.out.1,⟨_,H3.out.2.1⟩,H3.out.2.2⟩ HG.out
 · have t0:(k != 0)=true:=by simpa using h0
   have HAP:Hid (L.append D r=(k,D1,L1)):=append_eq0 HL.out.2.2.2.2.2.2.1 HA.out.1 h0
   have H1:=aB (aA hl1 (aA hd1 ht1))
   clear h0 hd1 hl1 ht1 hF
   go_wp2
   go_ret
   rw[HAP.out]
   exact fW.kept ⟨rfl,H1.out.2.1,H1.out.1,H1.out.2.2⟩ HG.out
end
end Go.Proofs.YtpfibkgmfapnjaaGreatDoor
