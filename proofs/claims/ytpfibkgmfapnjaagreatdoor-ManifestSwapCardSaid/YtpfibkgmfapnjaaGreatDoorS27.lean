/- Wal: the walk of Open. -/
import Derived.Test.YtpfibkgmfapnjaaGreatDoorS26
import Derived.StillTailTactics
set_option linter.unusedSimpArgs false
set_option linter.unusedVariables false
namespace Go.Proofs.YtpfibkgmfapnjaaGreatDoor
section
open Go.RowKit Go.Maps Go.Sort Go.Shelf
variable {G F H:Nat→Prop} {w w':World} {lb mp db mb bx nm:Nat} {ms:List (Int×Sg)} {L L' L0:Lg} {D:Dk} {s r:ByteArray} {S:List (Nat×Fl)} {dir:ByteArray}
def fresh (dir:ByteArray) (size:Int):Lg:=⟨dir,size,[],0,0,false,ByteArray.empty⟩
def OpenE (F:Nat→Prop) (w w':World) (db mb:Nat) (D:Dk) (S:List (Nat×Fl)) (L0:Lg) (e:Ending):Prop:=
 ∃ F':Nat→Prop,(∀ q,F q→F' q)∧(∀ q,F' q→F q∨w.heap.size≤q)∧Tn (aT db mb) w w'∧
 ((Spoilt S∧e= .returned (.tuple #[.pointer none,.int .i64 31])∧aF F' w' db mb D)∨
  ∃ L,LdS L0 S S.length L∧
   (((L.mended D).1≠0∧(L.mended D).1≠24∧e= .returned (.tuple #[.pointer none,.int .i64 (L.mended D).1])∧aF F' w' db mb (L.mended D).2.1)∨
    (((L.mended D).1=0∨(L.mended D).1=24)∧∃ (lb mp:Nat) (G:Nat→Prop),e= .returned (.tuple #[.pointer (some ⟨lb,0,none⟩),.int .i64 0])∧aF F' w' db mb (L.mended D).2.1∧dO G w' lb mp db (L.mended D).2.2∧(∀ q,G q→F' q∧¬ aT db mb q∧w.heap.size≤q))))
theorem LdS.m (h:LdS L0 S S.length L):L.m=fR S:=by
 rcases h with⟨h,_⟩|⟨_,A,n,f,_,_,_,h⟩
 · rw[h,List.take_length]
 · rw[h]
theorem LdS.last (h:LdS L0 S S.length L):L.last=(aP S:Int):=by
 unfold Lg.last aP
 rw[h.m,mOf_keys]
 rcases List.eq_nil_or_concat S with rfl|⟨A,p,rfl⟩
 · rfl
 · simp
theorem lastN_rng (h:cL S):aP S<4294967296:=by
 rcases List.eq_nil_or_concat S with rfl|⟨A,p,rfl⟩
 · decide
 · obtain⟨n,f⟩:=p
   rw[List.concat_eq_append]at h ⊢
   rw[lastN_snoc]
   exact(h.rng (n,f) (by simp)).2
theorem fresh_at {z mp:Nat} {size:Int} {w1 w2:World} (hz:z≤w1.heap.size) (hmp:mp=w1.heap.size) (hlb:lb=w1.heap.size+1) (hs:0≤size∧size≤1048576) (hd:dir.size≤40)
 (hw:w2=(w1.alloc (.map #[] 0)).alloc (.cells #[.pointer (some ⟨db,0,none⟩),.string dir,.int .i64 size,.map (some mp),.int .i64 0,.int .i64 0,.bool false,.string ⟨#[]⟩] 164)):eQ (span lb mp z w2) w2 lb mp db [] (fresh dir size):=by
 have hsz:w2.heap.size=w1.heap.size+2:=by rw[hw];simp
 have hm:aL ckZ cvS w2 mp []:=by
  rw[hw,hmp]
  exact(aL.made w1).below ((Below.refl _ _).alloc (Nat.le_refl _) _)
 refine⟨?_,?_,?_,?_,?_,?_,?_,?_,?_,hm,rfl,fun p hp=>by simp at hp,List.Pairwise.nil,by omega,fun p hp=>by simp at hp,.inl rfl,.inr (.inl rfl),fun p hp=>by simp at hp,?_,⟨hd,fun p hp=>by simp[fresh]at hp,List.Pairwise.nil,by simp[fresh],fun p hp=>by simp[fresh]at hp,⟨Int.le_refl _,(by decide:(0:Int)≤4294967295)⟩,⟨Int.le_refl _,(by decide:(0:Int)≤1048576)⟩,by simp[fresh],hs⟩⟩
 · rw[hw,hlb];simp[go_sem]
 · rw[hw,hlb];simp[go_sem,fresh]
 · rw[hw,hlb];simp[go_sem,fresh]
 · rw[hw,hlb];simp[go_sem]
 · rw[hw,hlb];simp[go_sem,fresh]
 · rw[hw,hlb];simp[go_sem,fresh]
 · rw[hw,hlb];simp[go_sem,fresh]
 · rw[hw,hlb];simp[go_sem,fresh];rfl
 · intro j;rw[hw,hlb];simp[go_sem]
 · intro q hq
   rcases hq with h|h|h<;>omega
set_option maxRecDepth 100000 in
set_option maxHeartbeats 4000000 in
theorem open_any {size:Int} (h:aF F w db mb D) (hon:D.on=true) (ha:D.acts+20≤1000000) (hs:SegD D dir S) (hs1:1≤size) (hs2:size≤524288):
 Calls Tryz.prog 30 #[.pointer (some ⟨db,0,none⟩),.string dir,.int .i64 size] w fun e w'=>OpenE F w w' db mb D S (fresh dir size) e:=by
 have hd40:=hs.d40
 have c1:=h.c1
 rw[hon]at c1
 have hnm:=name_any dir w (by omega)
 rw[hs.nm]at hnm
 have a1:¬ (40:Int)<(dir.size:Int):=by omega
 have a2:¬ size<1:=by omega
 have a3:¬ 524288<size:=by omega
 have hcl:∀ W,Calls Tryz.prog 31 #[.string dir] W fun e w'=>e= .returned (.string dir)∧Below W.heap.size W w':=fun W=>cB W dir (by omega)
 have hmk:∀ w,(Instr.makeMap tSeg none).run Tryz.prog w= .ok (.map (some w.heap.size)) (w.alloc (.map #[] 0)):=fun _=>rfl
 have H:=aB (aA h (aA hon (aA ha (aA hs (aA hs1 hs2)))))
 clear h hon ha hs hs1 hs2
 go_enter Tryz.func30,Tryz.ntmps30
 go_wp2_with (first
  |(go_at_call 29;go_loud (refine hnm.mono ?_);rintro e w1 ⟨rfl,hb1⟩;have B1:=aB hb1;have c11:=(hb1.cell (p:=⟨db,1,none⟩) (World.block_lt_of_cell? _ _ c1)).trans c1;clear hb1)
  |(go_at_call 60;go_loud (refine(on_any c11).mono ?_);rintro e w2 ⟨rfl,rfl⟩)
  |(go_at_call 31;go_loud (refine(hcl _).mono ?_);rintro e w3 ⟨rfl,hb3⟩;have B3:=aB hb3;clear hb3))
 have hb03:Below w.heap.size w w3:=B1.out.trans (B3.out.mono B1.out.size)
 have hlo:=fresh_at (db:=db) (w1:=w3) (w2:=_) (z:=w.heap.size) hb03.size rfl rfl (aA (by have:=H.out.2.2.2.2.1;omega:0≤size) (by have:=H.out.2.2.2.2.2;omega:size≤1048576)) hd40 rfl
 obtain⟨W5,hW5⟩:∃ W5,W5=(w3.alloc (.map #[] 0)).alloc (.cells #[.pointer (some ⟨db,0,none⟩),.string dir,.int .i64 size,.map (some w3.heap.size),.int .i64 0,.int .i64 0,.bool false,.string ⟨#[]⟩] 164):=⟨_,rfl⟩
 rw[← hW5]at hlo
 have hb5:Below w.heap.size w W5:=by rw[hW5];exact(hb03.alloc hb03.size _).alloc (by have:=hb03.size;simp;omega) _
 have hld:=load_any (H.out.1.below hb5) H.out.2.1 H.out.2.2.2.1 hlo rfl rfl hb5.size
 have HL:=aB (aA hld (aA hlo (aA hb5 hb03.size)))
 clear hld hlo hb5 hb03 c11 c1 hnm hcl hmk
 have h5:W5.heap.size=w3.heap.size+2:=by rw[hW5];simp
 rw[← hW5]
 clear hW5
 refine HL.out.1.mono ?_
 rintro e w6 ⟨hE,ht6⟩
 have hz6:=ht6.size
 have hzw:=HL.out.2.2.2
 have hD5:aF (fun q=>F q∨(w.heap.size≤q∧q<W5.heap.size)) W5 db mb D:=H.out.1.more (fun q h=> .inl h) (fun q h=>h.imp id (fun h=>h.1)) (fun q h=>by
  rcases h with h|h
  · have:=H.out.1.lt q h;have:=HL.out.2.2.1.size;omega
  · exact h.2) HL.out.2.2.1
 have hdw:=H.out.1.ltd
 have hmw:=H.out.1.m.lt
 have hD6:aF (fun q=>F q∨(w.heap.size≤q∧q<w6.heap.size)) w6 db mb D:=hD5.widen ht6 (fun q _ e=>by
  rcases e with rfl|rfl
  · exact⟨.inr ⟨by omega,by omega⟩,by unfold aT;omega⟩
  · exact⟨.inr ⟨by omega,by omega⟩,by unfold aT;omega⟩) (fun q h=>h.imp id (fun h=>⟨h.1,by omega⟩)) (fun q h=>by
  rcases h with h|h
  · exact .inl (.inl h)
  · by_cases h9:q<W5.heap.size
    · exact .inl (.inr ⟨h.1,h9⟩)
    · exact .inr (by omega)) (fun q h=>by
  rcases h with h|h
  · have:=H.out.1.lt q h;omega
  · exact h.2)
 have ht06:Tn (aT db mb) w w6:=(Tn.ofBelow HL.out.2.2.1).andThen ht6 (fun q e=>by right;rcases e with rfl|rfl<;>omega)
 have HD:=aB (aA hD6 (aA ht06 (aA hdw hmw)))
 clear hD5 hD6 ht06 hdw hmw ht6
 rcases hE with⟨ms,L,rfl,hls,hlo6⟩|⟨rfl,hsp⟩
 · have hme:=w_mended (mb:=mb) (F:=fun q=>F q∨(w.heap.size≤q∧q<w6.heap.size)) ⟨_,hlo6⟩ HD.out.1 (fun q e=>by
    have h1:=HD.out.2.2.1
    have h2:=HD.out.2.2.2
    rcases e with rfl|rfl|e
    · exact⟨.inr ⟨by omega,by omega⟩,by unfold aT;omega⟩
    · exact⟨.inr ⟨by omega,by omega⟩,by unfold aT;omega⟩
    · exact⟨.inr e,by unfold aT;omega⟩) H.out.2.1 H.out.2.2.1 (lastN_rng H.out.2.2.2.1.rise) hls.last
   obtain⟨x,hx⟩:∃ x,L.mended D=x:=⟨_,rfl⟩
   obtain⟨k,D2,L2⟩:=x
   rw[hx]at hme
   have HM:=aB (aA hme (aA hx hls))
   clear hme hx hls hlo6
   go_wp2_with fail
   refine HM.out.1.mono ?_
   rintro e w7 ⟨rfl,hD7,hL7,ht7⟩
   simp only at hD7 hL7
   have hfin:Tn (aT db mb) w w7:=HD.out.2.1.andThen ht7 (fun q e=>by
    rcases e with e|e
    · exact .inl e
    · right
      rcases e with rfl|rfl|e
      · omega
      · omega
      · exact e.1)
   have H7:=aB (aA hD7 (aA hL7 hfin))
   clear hD7 hL7 ht7 hfin
   have hpost1:∀ e,((k≠0∧k≠24∧e= .returned (.tuple #[.pointer none,.int .i64 k]))∨((k=0∨k=24)∧e= .returned (.tuple #[.pointer (some ⟨w3.heap.size+1,0,none⟩),.int .i64 0])))→OpenE F w w7 db mb D S (fresh dir size) e:=by
    intro e he
    refine⟨(fun q=>F q∨(w.heap.size≤q∧q<w6.heap.size)),fun q h=> .inl h,fun q h=>h.imp id (fun h=>h.1),H7.out.2.2,.inr ⟨L,HM.out.2.2,?_⟩⟩
    rw[HM.out.2.1]
    rcases he with⟨h1,h2,h3⟩|⟨h1,h2⟩
    · exact .inl ⟨h1,h2,h3,H7.out.1⟩
    · refine .inr ⟨h1,_,_,_,h2,H7.out.1,H7.out.2.1,fun q e=>?_⟩
      have h1:=HD.out.2.2.1
      have h2:=HD.out.2.2.2
      rcases e with rfl|rfl|e
      · exact⟨.inr ⟨by omega,by omega⟩,by unfold aT;omega,by omega⟩
      · exact⟨.inr ⟨by omega,by omega⟩,by unfold aT;omega,by omega⟩
      · exact⟨.inr e,by unfold aT;omega,e.1⟩
   have HP:=aB hpost1
   clear hpost1
   by_cases hk0:k=0
   · subst hk0
     go_wp2
     go_ret2
     exact HP.out _ (.inr ⟨by simp,rfl⟩)
   · by_cases hk24:k=24
     · subst hk24
       go_wp2
       go_ret2
       exact HP.out _ (.inr ⟨by simp,rfl⟩)
     · have t0:(k != 0)=true:=by simpa using hk0
       have t1:(k != 24)=true:=by simpa using hk24
       have HK:=aB (aA hk0 hk24)
       go_wp2
       go_ret2
       exact HP.out _ (.inl ⟨HK.out.1,HK.out.2,rfl⟩)
 · go_wp2
   go_ret2
   exact⟨(fun q=>F q∨(w.heap.size≤q∧q<w6.heap.size)),fun q h=> .inl h,fun q h=>h.imp id (fun h=>h.1),HD.out.2.1,.inl ⟨hsp,rfl,HD.out.1⟩⟩
end
section
open Go.RowKit Go.Maps Go.Sort Go.Shelf
variable {G F H:Nat→Prop} {w w':World} {lb mp db mb bx nm:Nat} {ms:List (Int×Sg)} {L L' L0 Li:Lg} {D Di D2:Dk} {s r:ByteArray} {S:List (Nat×Fl)} {dir:ByteArray}
theorem eQ.del {k:Int} (h:eQ G w lb mp db ms L) (hm:aL ckZ cvS w' mp (aW ms k)) (ht:Tn (fun q=>q=mp) w w'):eQ G w' lb mp db (aW ms k) {L with m:=aW L.m k}:=by
 have hl:=World.block_lt_of_cell? _ _ h.c0
 have hn:¬ lb=mp:=h.ne
 have hsub:∀ p∈aW ms k,p∈ms:=fun p hp=>(List.mem_filter.1 hp).1
 have hL:aW L.m k=(aW ms k).map (fun p=>(p.1,p.2.rs)):=by
  rw[h.eq]
  unfold aW
  rw[List.filter_map]
  rfl
 have hsubL:∀ p∈aW L.m k,p∈L.m:=fun p hp=>(List.mem_filter.1 hp).1
 refine⟨ht.cell h.c0 hn,ht.cell h.c1 hn,ht.cell h.c2 hn,ht.cell h.c3 hn,ht.cell h.c4 hn,ht.cell h.c5 hn,ht.cell h.c6 hn,ht.cell h.c7 hn,fun j=>(ht.frozen (p:=⟨lb,j,none⟩) hl hn).trans (h.fz j),hm,hL,?_,?_,h.ne,fun p hp=>h.off p (hsub p hp),h.gl,h.gm,fun p hp=>h.gr p (hsub p hp),fun q hq=>Nat.lt_of_lt_of_le (h.lt q hq) ht.size,⟨h.ok.dir,fun p hp=>h.ok.key p (hsubL p hp),?_,?_,fun p hp=>h.ok.recs p (hsubL p hp),h.ok.op,h.ok.long,h.ok.left,h.ok.size⟩⟩
 · intro p hp
   exact ht.row (h.rows p (hsub p hp)) (fun q hq e=>(h.off p (hsub p hp) q hq).2 e)
 · exact List.Pairwise.sublist List.filter_sublist h.sep
 · exact List.Pairwise.sublist (List.filter_sublist.map _) h.ok.rise
 · exact Nat.le_trans (List.length_filter_le _ _) h.ok.few
structure DrS (L:Lg) (D:Dk) (below:Int) (i:Nat) (Li:Lg) (Di:Dk):Prop where
 eq:Lg.dropK below ((L.m.map (·.1)).drop i) Li Di=L.drop D below
 on:Di.on=true
 acts:Di.acts≤D.acts+i
 dir:Li.dir=L.dir
 op:Li.op=L.op
def gone (L:Lg) (k:Int):Lg:=if(aW L.m k).length=0 then {L with m:=aW L.m k,torn:=false,left:=ByteArray.empty} else {L with m:=aW L.m k}
theorem DrS.skip {below:Int} {i:Nat} (h:DrS L D below i Li Di) (hi:i<(L.m.map (·.1)).length) (hk:below≤(L.m.map (·.1))[i]∨(L.m.map (·.1))[i]=L.op):DrS L D below (i+1) Li Di:=by
 refine⟨?_,h.on,by have:=h.acts;omega,h.dir,h.op⟩
 rw[← h.eq,List.drop_eq_getElem_cons hi,Lg.dropK,if_pos (by rw[h.op];exact hk)]
theorem DrS.go {below:Int} {i:Nat} (h:DrS L D below i Li Di) (hi:i<(L.m.map (·.1)).length) (hk:¬ (below≤(L.m.map (·.1))[i]∨(L.m.map (·.1))[i]=L.op)) (hr:Di.remove (cD L.dir (L.m.map (·.1))[i])=(0,D2)):DrS L D below (i+1) (gone Li (L.m.map (·.1))[i]) D2:=by
 have hg:=jR Di h.on (cD L.dir (L.m.map (·.1))[i])
 rw[hr]at hg
 have hg:=hg.go (by simp)
 refine⟨?_,hg.1,by have:=h.acts;have:=hg.2;simp only at this;omega,?_,?_⟩
 · have hr':Di.remove (cD Li.dir (L.m.map (·.1))[i])=(0,D2):=by rw[h.dir];exact hr
   rw[← h.eq,List.drop_eq_getElem_cons hi,Lg.dropK,if_neg (by rw[h.op];exact hk),hr']
   rfl
 · unfold gone;split<;>exact h.dir
 · unfold gone;split<;>exact h.op
theorem DrS.err {below:Int} {i:Nat} {k:Int} (h:DrS L D below i Li Di) (hi:i<(L.m.map (·.1)).length) (hk:¬ (below≤(L.m.map (·.1))[i]∨(L.m.map (·.1))[i]=L.op)) (hr:Di.remove (cD L.dir (L.m.map (·.1))[i])=(k,D2)) (h0:k≠0):L.drop D below=(k,D2,Li):=by
 have hr':Di.remove (cD Li.dir (L.m.map (·.1))[i])=(k,D2):=by rw[h.dir];exact hr
 rw[← h.eq,List.drop_eq_getElem_cons hi,Lg.dropK,if_neg (by rw[h.op];exact hk),hr']
 simp only
 rw[if_pos h0]
set_option maxRecDepth 100000 in
set_option maxHeartbeats 4000000 in
theorem w_drop (hlo:dO G w lb mp db L) (hd:aF F w db mb D) (hG:∀ q,G q→F q∧¬ aT db mb q) (hon:D.on=true) (ha:D.acts+20000≤1000000) (below:Int):
 Calls Tryz.prog 58 #[.pointer (some ⟨lb,0,none⟩),.int .i64 below] w fun e w'=>fW G F w w' lb mp db mb e (L.drop D below):=by
 have hnone:=w_none hlo
 have hnum:=jB hlo
 have hok:L.Ok∧G lb∧G mp:=by obtain⟨ms,h⟩:=hlo;exact⟨h.ok,h.gl,h.gm⟩
 obtain⟨n,hn⟩:∃ n,L.m.length=n:=⟨_,rfl⟩
 rw[hn]at hnum
 have hn20:n≤20000:=by rw[← hn];exact hok.1.few
 have HL:=aB (aA hlo (aA hd (aA hG (aA hon (aA ha (aA hok hn))))))
 have HN:=aB hnum
 clear hlo hd hG hon ha hok hn hnum
 go_enter Tryz.func58,Tryz.ntmps58
 go_wp2_with (go_at_call 156;go_loud (refine hnone.mono ?_);rintro e w2 ⟨rfl,rfl⟩)
 refine HN.out.mono ?_
 rintro e w1 ⟨ka,kc,rfl,hown,hb1⟩
 have hl1:=HL.out.1.below hb1
 have hd1:=HL.out.2.1.below hb1
 have H1:=aB (aA hown (aA hb1 (aA hl1 hd1)))
 clear hown hb1 hl1 hd1 hnone
 go_wp2
 go_loopw [6,7,13] (fun _ _ y wr=>∃ i:Nat,i≤n∧y= .int .i64 (i:Int)∧∃ Li Di,DrS L D below i Li Di∧dO G wr lb mp db Li∧aF F wr db mb Di∧Tn (fun q=>aT db mb q∨G q) w1 wr) (fun _ _ y _=>n - (intOf y).toNat)
 case atStart=>exact⟨0,by omega,rfl,L,D,⟨rfl,HL.out.2.2.2.1,Nat.le_refl _,rfl,rfl⟩,H1.out.2.2.1,H1.out.2.2.2,Tn.refl _ _⟩
 case round=>
  obtain⟨i,hi,rfl,Li,Di,hS,hlr,hdr,htr⟩:=hrel
  have HB:=aB (aA hS (aA hlr (aA hdr htr)))
  clear hS hlr hdr htr
  by_cases hlt:i<n
  · have hik:i<(L.m.map (·.1)).length:=by rw[List.length_map,HL.out.2.2.2.2.2.2];exact hlt
    obtain⟨g,rfl,hgb,d0⟩:=H1.out.1.at_ hik
    have hkr:1≤(L.m.map (·.1))[i]∧(L.m.map (·.1))[i]≤4294967295:=by
     rw[List.getElem_map]
     exact HL.out.2.2.2.2.2.1.1.key _ (List.getElem_mem _)
    have hskip:=HB.out.1.skip hik
    have hgo:=HB.out.1.go (D2:=(Di.remove (cD L.dir (L.m.map (·.1))[i])).2) hik
    have herr:=HB.out.1.err (D2:=(Di.remove (cD L.dir (L.m.map (·.1))[i])).2) (k:=(Di.remove (cD L.dir (L.m.map (·.1))[i])).1) hik
    obtain⟨kv,hkv⟩:∃ kv:Int,(L.m.map (·.1))[i]=kv:=⟨_,rfl⟩
    rw[hkv]at d0 hkr hskip hgo herr
    have d1:wr.cell? ⟨g,i,none⟩=some (.int .i64 kv):=by
     refine HB.out.2.2.2.cell d0 (fun e=>?_)
     have h1:g<w.heap.size:=by
      rcases e with(e|e)|e
      · have h2:g=db:=e;have:=HL.out.2.1.ltd;omega
      · have h2:g=mb:=e;have:=HL.out.2.1.m.lt;omega
      · obtain⟨ms,h⟩:=HL.out.1;exact h.lt g e
     omega
    obtain⟨ms',hm⟩:=HB.out.2.1
    have c0:=hm.c0
    have c1:=hm.c1
    have c4:=hm.c4
    rw[HB.out.1.dir]at c1
    rw[HB.out.1.op]at c4
    have r1:(i:Int)<(n:Int):=by omega
    have HM:=aB (aA hm (aA hskip (aA hgo (aA herr hkr))))
    clear hm hskip hgo herr hkv d0 hkr
    obtain⟨op,hop⟩:∃ op,L.op=op:=⟨_,rfl⟩
    rw[hop]at c4
    by_cases hb:below≤kv
    · have HX:=aB (HM.out.2.1 (.inl hb))
      clear c0 c1 c4 hop
      go_wp2
      go_roundw
      case rel=>exact⟨i+1,by omega,by go_num,Li,Di,HX.out,HB.out.2.1,HB.out.2.2.1,HB.out.2.2.2⟩
      case measure=>simp[intOf];omega
    · by_cases ho:kv=op
      · have HX:=aB (HM.out.2.1 (.inr (ho.trans hop.symm)))
        subst ho
        clear c0 c1 hop
        go_wp2
        go_roundw
        case rel=>exact⟨i+1,by omega,by go_num,Li,Di,HX.out,HB.out.2.1,HB.out.2.2.1,HB.out.2.2.2⟩
        case measure=>simp[intOf];omega
      · have hno:¬ (below≤kv∨kv=L.op):=by rw[hop];rintro(h|h);exact hb h;exact ho h
        have hgo:=HM.out.2.2.1 hno
        have herr:=HM.out.2.2.2.1 hno
        obtain⟨x,hx⟩:∃ x,Di.remove (cD L.dir kv)=x:=⟨_,rfl⟩
        have hd40:L.dir.size≤40:=HL.out.2.2.2.2.2.1.1.dir
        have hsz:=jP hd40 kv
        have hrem:=fun W (hW:aF F W db mb Di)=>fP hW HB.out.1.on (by have h1:=HB.out.1.acts;have h2:=HL.out.2.2.2.2.1;have h3:=HL.out.2.2.2.2.2.1.1.few;have h4:=HL.out.2.2.2.2.2.2;omega) (cD L.dir kv) hsz
        obtain⟨dir,hdir⟩:∃ dir,L.dir=dir:=⟨_,rfl⟩
        obtain⟨nk,hnk⟩:∃ nk:Nat,kv=(nk:Int):=⟨kv.toNat,by have:=HM.out.2.2.2.2;omega⟩
        have hnm:=fun W hW=>w_name (lb:=lb) (dir:=dir) (by rw[← hdir];exact hd40) nk (by have:=HM.out.2.2.2.2;omega) (w:=W) hW
        have hseg:cD L.dir kv=aV dir nk:=by rw[hdir,hnk];rfl
        rw[hx]at hgo herr
        rw[hseg]at hx hrem
        simp only[hx]at hrem
        rw[← hnk]at hnm
        obtain⟨k,D2⟩:=x
        simp only at hgo herr hrem
        obtain⟨sg,hsg⟩:∃ sg,aV dir nk=sg:=⟨_,rfl⟩
        rw[hsg]at hrem hnm
        rw[hdir]at c1
        have t1:¬ kv≥below:=by omega
        have t2:(kv == op)=false:=beq_eq_false_iff_ne.2 ho
        have gl:¬ aT db mb lb:=(HL.out.2.2.1 lb HL.out.2.2.2.2.2.1.2.1).2
        have HR:=aB (aA hrem (aA hnm (aA hgo herr)))
        clear hrem hnm hgo herr hsg hseg hnk hdir hsz hd40 hx hno ho hb hop
        go_wp2_with fail
        refine dQ (fun w'=>w'.cell? ⟨lb,0,none⟩=some (.pointer (some ⟨db,0,none⟩))) 8 9 c0 (fun hH=>?_)
        refine bU [[0],[1],[2],[3],[4],[5]] hH ?_
        refine bM (i:=6) rfl (fun K hK=>?_)
        go_simp
        go_at_call 158
        have c1d:wr.drew.cell? ⟨lb,1,none⟩=some (.string dir):=c1
        with_reducible refine(HR.out.2.1 _ c1d).mono ?_
        rintro e w2 ⟨rfl,hb2⟩
        have hbr2:=(Below.refl _ _).drew.trans hb2
        have kd2:=(hb2.cell (p:=⟨lb,0,none⟩) (World.block_lt_of_cell? _ _ c0)).trans c0
        have H2:=aB (aA hbr2 (aA (HB.out.2.2.1.below hbr2) (HM.out.1.tn (Tn.ofBelow (F:=fun _=>False) hbr2) (fun _ _ e=>e))))
        clear hb2 hbr2
        refine bH hK kd2 ?_
        clear hK K
        intro hH
        refine bM (i:=7) rfl (fun K hK=>?_)
        go_simp
        go_at_call 159
        with_reducible refine(HR.out.1 _ H2.out.2.1).mono ?_
        rintro e w3 ⟨rfl,hd3,ht3⟩
        have kd3:=ht3.cell kd2 gl
        have hm3:=H2.out.2.2.tn ht3 (fun q hq h=>(HL.out.2.2.1 q hq).2 h)
        have q3:=hm3.c3
        have htr3:Tn (fun q=>aT db mb q∨G q) w1 w3:=HB.out.2.2.2.trans (iU ((Tn.ofBelow H2.out.1).trans ht3))
        have H3:=aB (aA hd3 (aA hm3 htr3))
        clear hd3 ht3 hm3 htr3
        refine bH hK kd3 ?_
        clear hK K
        intro hH
        refine eU ?_
        clear hH kd3 kd2 c0 c1 c4
        by_cases h0:k=0
        · subst h0
          have HX:=aB (HR.out.2.2.1 rfl)
          obtain⟨w4,hrun,hm4,ht4,hz4⟩:=aL.del H3.out.2.1.mpl keyZ und_seg 0 kv
          have hrun':(Builtin.delete_ #[tSeg,3] 0 #[.map (some mp),.int .i64 kv]).run Tryz.prog w3= .ok (.tuple #[]) w4:=hrun
          have hlen:=hm4.len und_seg 3
          have hl4:=H3.out.2.1.del hm4 ht4
          have hc3:=hl4.c3
          have hmL:(aW Li.m kv).length=(aW ms' kv).length:=hl4.len.symm
          obtain⟨nl,hnl⟩:∃ nl,(aW ms' kv).length=nl:=⟨_,rfl⟩
          rw[hnl]at hlen hmL
          have hlen':(Builtin.len_ #[tSeg] 3 #[.map (some mp)]).run Tryz.prog w4= .ok (.int .i64 (nl:Int)) w4:=hlen
          have htr4:Tn (fun q=>aT db mb q∨G q) w1 w4:=H3.out.2.2.trans (ht4.mono (fun q e=> .inr (e▸HL.out.2.2.2.2.2.1.2.2)))
          have hd4:aF F w4 db mb D2:=H3.out.1.frame ht4 (fun q _ e=>by
           have h1:=HL.out.2.2.1 mp HL.out.2.2.2.2.2.1.2.2
           have h2:q=mp:=e
           subst h2
           exact⟨h1.1,fun e=>h1.2 (.inl e),fun e=>h1.2 (.inr e)⟩)
          have H4:=aB (aA hl4 (aA hmL (aA htr4 hd4)))
          clear hrun hm4 ht4 hz4 hlen hl4 hmL htr4 hd4 hnl
          by_cases hn0:nl=0
          · subst hn0
            have f6:=H4.out.1.fz 6
            have f7:=H4.out.1.fz 7
            have c6:=H4.out.1.c6
            have c7:=H4.out.1.c7
            go_wp2
            go_roundw
            case rel=>
             have hx:=HX.out
             unfold gone at hx
             rw[if_pos H4.out.2.1]at hx
             have hme:=dO.mend ⟨_,H4.out.1⟩
             have ht5:Tn (fun q=>q=lb) w4 ((w4.setCell ⟨lb,6,none⟩ (.bool false)).setCell ⟨lb,7,none⟩ (.string ⟨#[]⟩)):=(Tn.setCell (F:=fun q=>q=lb) w4 ⟨lb,6,none⟩ _ rfl).trans (Tn.setCell (F:=fun q=>q=lb) _ ⟨lb,7,none⟩ _ rfl)
             have h1:=HL.out.2.2.1 lb HL.out.2.2.2.2.2.1.2.1
             exact⟨i+1,by omega,by go_num,_,_,hx,hme,H4.out.2.2.2.frame ht5 (fun q _ e=>by
              have h2:q=lb:=e
              subst h2
              exact⟨h1.1,fun e=>h1.2 (.inl e),fun e=>h1.2 (.inr e)⟩),H4.out.2.2.1.trans (ht5.mono (fun q e=> .inr (e▸HL.out.2.2.2.2.2.1.2.1)))⟩
            case measure=>simp[intOf];omega
          · have t3:((nl:Int) == 0)=false:=beq_eq_false_iff_ne.2 (by omega)
            have HN0:=aB hn0
            clear hn0
            go_wp2
            go_roundw
            case rel=>
             have hx:=HX.out
             unfold gone at hx
             rw[if_neg (by rw[H4.out.2.1];exact HN0.out)]at hx
             exact⟨i+1,by omega,by go_num,_,_,hx,⟨_,H4.out.1⟩,H4.out.2.2.2,H4.out.2.2.1⟩
            case measure=>simp[intOf];omega
        · have t0:(k != 0)=true:=by simpa using h0
          have HX:=aB (HR.out.2.2.2 trivial h0)
          clear h0
          go_wp2
          go_ret
          unfold fW
          rw[HX.out]
          exact⟨rfl,H3.out.1,⟨_,H3.out.2.1⟩,(Tn.ofBelow H1.out.2.1).trans H3.out.2.2⟩
  · obtain rfl:i=n:=by omega
    have he:=HB.out.1.eq
    rw[List.drop_of_length_le (by rw[List.length_map,HL.out.2.2.2.2.2.2];exact Nat.le_refl _)]at he
    have HE:=aB he
    clear he
    go_wp2
    go_ret
    unfold fW
    rw[← HE.out]
    exact⟨rfl,HB.out.2.2.1,HB.out.2.1,(Tn.ofBelow H1.out.2.1).trans HB.out.2.2.2⟩
end
section
open Go.RowKit Go.Maps Go.Sort Go.Shelf
variable {w w':World} {p:Value}
def Noned (w:World) (p:Value):Prop:=p= .pointer none∨∃ lb,p= .pointer (some ⟨lb,0,none⟩)∧w.cell? ⟨lb,0,none⟩=some (.pointer none)
end
section
open Go.RowKit Go.Maps Go.Sort Go.Shelf
def StrsAt (w:World) (a:Option Addr) (len:Nat) (l:List ByteArray):Prop:=
 l.length=len∧(len=0∨∃ b off,a=some ⟨b,off,none⟩∧b<w.heap.size∧∀ i (hi:i<l.length),w.cell? ⟨b,off+i,none⟩=some (.string l[i]))∧∀ s∈l,s.size≤maxLen
variable {F F' G G' H:Nat→Prop} {B:Nat} {w w' w0:World} {lb mp db mb:Nat} {L L':Lg} {D D':Dk} {S:List (Nat×Fl)} {dir:ByteArray} {x y:Value} {l:List ByteArray}
theorem rdT_own {v:Value} (h:bE eStr w B v l):RdT w v l:=by
 have h0:=h
 obtain⟨h1,h2⟩:=h
 rcases h2 with⟨rfl,h3⟩|⟨g,cap',cur,rfl,hg,hh,hn',hc,hcl,htk⟩
 · obtain rfl:=List.eq_nil_of_length_eq_zero h3
   exact⟨none,0,rfl,.inl rfl⟩
 · refine⟨_,cap',rfl,.inr ⟨g,0,rfl,(Array.getElem?_eq_some_iff.1 hh).1,fun i hi=>?_⟩⟩
   have:=h0.cellAt i (by omega)
   rw[Nat.zero_add,this]
   have h4:=eStr.get l i 0 hi (by omega)
   rw[Nat.mul_one,Nat.add_zero]at h4
   rw[h4]
   rfl
def RdX (F:Nat→Prop) (w:World) (x:Value) (l:List ByteArray):Prop:=∃ a c,x= .slice a l.length c∧(l=[]∨∃ b off,a=some ⟨b,off,none⟩∧¬ F b∧b<w.heap.size∧∀ i (hi:i<l.length),w.cell? ⟨b,off+i,none⟩=some (.string l[i]))
theorem RdX.rd (h:RdX F w x l):RdT w x l:=by
 obtain⟨a,c,hx,h⟩:=h
 exact⟨a,c,hx,h.imp id (fun⟨b,off,h1,h2,h3⟩=>⟨b,off,h1,h3⟩)⟩
theorem rdX_own {v:Value} (h:bE eStr w B v l) (hF:∀ q,F q→q<B):RdX F w v l:=by
 have h0:=h
 obtain⟨h1,h2⟩:=h
 rcases h2 with⟨rfl,h3⟩|⟨g,cap',cur,rfl,hg,hh,hn',hc,hcl,htk⟩
 · obtain rfl:=List.eq_nil_of_length_eq_zero h3
   exact⟨none,0,rfl,.inl rfl⟩
 · refine⟨_,cap',rfl,.inr ⟨g,0,rfl,fun e=>by have:=hF g e;omega,(Array.getElem?_eq_some_iff.1 hh).1,fun i hi=>?_⟩⟩
   have:=h0.cellAt i (by omega)
   rw[Nat.zero_add,this]
   have h4:=eStr.get l i 0 hi (by omega)
   rw[Nat.mul_one,Nat.add_zero]at h4
   rw[h4]
   rfl
structure DS (B:Nat) (w0 w:World) (F:Nat→Prop) (db mb:Nat) (D:Dk):Prop where
 d:aF F w db mb D
 new:∀ q,F q→B≤q
 b:Below B w0 w
 hz:B≤w.heap.size
structure WS (B:Nat) (w0 w:World) (F G:Nat→Prop) (db mb lb mp:Nat) (D:Dk) (L:Lg):Prop where
 d:DS B w0 w F db mb D
 l:dO G w lb mp db L
 sub:∀ q,G q→F q∧¬ aT db mb q
structure fV (F F':Nat→Prop) (w w':World):Prop where
 t:Tn F w w'
 g:∀ q,F q→F' q
 n:∀ q,F' q→F q∨w.heap.size≤q
theorem fV.trans {F'':Nat→Prop} {w'':World} (h:fV F F' w w') (k:fV F' F'' w' w''):fV F F'' w w'':=
 ⟨h.t.andThen k.t h.n,fun q e=>k.g q (h.g q e),fun q e=>(k.n q e).elim (h.n q) (fun e=> .inr (Nat.le_trans h.t.size e))⟩
theorem fV.below (h:Below w.heap.size w w'):fV F F w w':=⟨Tn.ofBelow h,fun _ h=>h,fun _ h=> .inl h⟩
theorem DS.dk2 (h:DS B w0 w F db mb D):∀ q,aT db mb q→F q:=fun q e=>by
 rcases e with rfl|rfl
 · exact h.d.fd
 · exact h.d.fm
theorem DS.go (h:DS B w0 w F db mb D) (hd:aF F' w' db mb D') (s:fV F F' w w'):DS B w0 w' F' db mb D':=
 ⟨hd,fun q e=>(s.n q e).elim (h.new q) (fun e=>Nat.le_trans h.hz e),h.b.trans (s.t.below h.hz h.new),Nat.le_trans h.hz s.t.size⟩
theorem DS.stay (h:DS B w0 w F db mb D) (hb:Below w.heap.size w w'):DS B w0 w' F db mb D:=h.go (h.d.below hb) (.below hb)
theorem WS.stay (h:WS B w0 w F G db mb lb mp D L) (hb:Below w.heap.size w w'):WS B w0 w' F G db mb lb mp D L:=⟨h.d.stay hb,h.l.below hb,h.sub⟩
theorem WS.disk (h:WS B w0 w F G db mb lb mp D L) (hd:aF F w' db mb D') (t:Tn (aT db mb) w w'):WS B w0 w' F G db mb lb mp D' L∧fV F F w w':=by
 have s:fV F F w w':=⟨t.mono h.d.dk2,fun _ h=>h,fun _ h=> .inl h⟩
 exact⟨⟨h.d.go hd s,h.l.tn t (fun q e=>(h.sub q e).2),h.sub⟩,s⟩
def Acted (B:Nat) (w0 w w':World) (F:Nat→Prop) (db mb lb mp:Nat) (r:Int×Dk×Lg) (e:Ending):Prop:=
 e= .returned (.int .i64 r.1)∧∃ G' F':Nat→Prop,WS B w0 w' F' G' db mb lb mp r.2.1 r.2.2∧fV F F' w w'
def Opened (B:Nat) (w0 w w':World) (F:Nat→Prop) (db mb:Nat) (D:Dk) (S:List (Nat×Fl)) (L0:Lg) (e:Ending):Prop:=
 ∃ F':Nat→Prop,fV F F' w w'∧Tn (aT db mb) w w'∧
 ((Spoilt S∧e= .returned (.tuple #[.pointer none,.int .i64 31])∧DS B w0 w' F' db mb D)∨
  ∃ L,LdS L0 S S.length L∧
   (((L.mended D).1≠0∧(L.mended D).1≠24∧e= .returned (.tuple #[.pointer none,.int .i64 (L.mended D).1])∧DS B w0 w' F' db mb (L.mended D).2.1)∨
    (((L.mended D).1=0∨(L.mended D).1=24)∧∃ (lb mp:Nat) (G:Nat→Prop),e= .returned (.tuple #[.pointer (some ⟨lb,0,none⟩),.int .i64 0])∧WS B w0 w' F' G db mb lb mp (L.mended D).2.1 (L.mended D).2.2)))
theorem OpenE.opened {e:Ending} {L0:Lg} (h:DS B w0 w F db mb D) (k:OpenE F w w' db mb D S L0 e):Opened B w0 w w' F db mb D S L0 e:=by
 obtain⟨F',h1,h2,h3,h4⟩:=k
 have s:fV F F' w w':=⟨h3.mono h.dk2,h1,h2⟩
 refine⟨F',s,h3,?_⟩
 rcases h4 with⟨a,b,c⟩|⟨L,hl,h5⟩
 · exact .inl ⟨a,b,h.go c s⟩
 · refine .inr ⟨L,hl,?_⟩
   rcases h5 with⟨a,b,c,d⟩|⟨a,lb,mp,G,b,c,d,e⟩
   · exact .inl ⟨a,b,c,h.go d s⟩
   · exact .inr ⟨a,lb,mp,G,b,⟨h.go c s,d,fun q hq=>⟨(e q hq).1,(e q hq).2.1⟩⟩⟩
theorem c_newd (h:Below w0.heap.size w0 w):Calls Tryz.prog 8 #[] w fun e w'=>e= .returned (.pointer (some ⟨w.heap.size+1,0,none⟩))∧DS w0.heap.size w0 w' (aT (w.heap.size+1) w.heap.size) (w.heap.size+1) w.heap.size (dE [] (-1) none 0)∧Below w.heap.size w w':=by
 refine(new_any w).mono ?_
 rintro e w' ⟨he,h1,h2,h3⟩
 have:=h.size
 exact⟨he,⟨h1,fun q e=>by rcases e with rfl|rfl<;>omega,h.trans (h2.mono h.size),by omega⟩,h2⟩
end
section
open Go.RowKit Go.Lib
variable {F F' G G' H:Nat→Prop} {B:Nat} {w w' w0:World} {lb mp db mb k n:Nat} {L L':Lg} {D D':Dk} {S S':List (Nat×Fl)} {M:Option Fl} {z:Option Fz} {f:Fl} {dir r:ByteArray} {size q:Int}
def opened (dir:ByteArray) (size:Int) (S:List (Nat×Fl)):Lg:=⟨dir,size,fR S,0,0,false,ByteArray.empty⟩
def openedT (dir:ByteArray) (size:Int) (S:List (Nat×Fl)) (f:Fl):Lg:=⟨dir,size,fR S,0,0,true,gP f.data⟩
theorem dH (h:L.torn=false):L.mended D=(0,D,L):=by
 unfold Lg.mended
 rw[if_pos h]
theorem mid_of {p:Nat×Fl} (hp:p∈S):∃ A B,S=A++(p.1,p.2)::B:=by
 obtain⟨A,B,h⟩:=List.append_of_mem hp
 exact⟨A,B,h⟩
theorem jK.opk (h:jK dir size L S):L.op≠0→∃ rs,aH L.m L.op=some rs:=by
 intro h0
 rcases h.op with⟨e,_⟩|⟨A,n,f,rfl,ho,_⟩
 · exact absurd e h0
 · refine⟨aM f.data,?_⟩
   have hm:=h.rise.mid (B:=[])
   rw[h.m,ho,fX,cQ (mOf_ne hm.1)]
   exact gR _ _ _
end
section
open Go.RowKit Go.Lib
variable {F F' G G' H:Nat→Prop} {B:Nat} {w w' w0:World} {lb mp db mb k n:Nat} {L L':Lg} {D D':Dk} {S S':List (Nat×Fl)} {M:Option Fl} {z:Option Fz} {f:Fl} {dir r:ByteArray} {size q c:Int}
theorem run_opened (hr:cL S) (hg:∀ p∈S,cE p.2.data) (hs:∀ p∈S,iL p.2):jK dir size (opened dir size S) S:=
 ⟨rfl,rfl,rfl,rfl,rfl,hr,hg,fun p hp=>Nat.le_of_eq (hs p hp),.inl ⟨rfl,rfl,hs⟩⟩
def iT (S:List (Nat×Fl)):Nat:=(S.map (fun p=>p.2.data.size)).sum
theorem eB (A X:List (Nat×Fl)):iT (A++X)=iT A+iT X:=by simp[iT]
theorem usedS_one:iT [(n,f)]=f.data.size:=by simp[iT]
theorem app_facts (h:jK dir size L S) (ha:AppS size L S S' r) (hr:r.size≤131072):cZ S'=cZ S++[r]∧iT S'=iT S+(8+r.size)∧aP S≤aP S'∧aP S'≤aP S+1∧S.length≤S'.length∧S'.length≤S.length+1:=by
 have hf:=fE r
 rcases ha with⟨A,n,f,rfl,_,_,rfl⟩|⟨A,n,f,rfl,_,_,_,rfl⟩|⟨_,rfl⟩
 · have hg:=(cE.app (h.good (n,f) (by simp)) hr).2
   simp only at hg
   refine⟨?_,?_,?_,?_,?_,?_⟩
   · rw[cC,cC,allR_one,allR_one,List.append_assoc]
     congr 1
   · rw[eB,eB,usedS_one,usedS_one,ByteArray.size_append,hf];omega
   all_goals simp[aP]
 · have hg:=(cE.one hr).2
   refine⟨?_,?_,?_,?_,?_,?_⟩
   · rw[cC,cC,cC,allR_one,allR_one,allR_one]
     show _++aM (aQ r)=_
     rw[hg]
   · rw[eB,eB,eB,usedS_one,usedS_one,usedS_one,hf]
   all_goals simp[aP]
 · have hg:=(cE.one hr).2
   refine⟨?_,?_,?_,?_,?_,?_⟩
   · rw[cC,allR_one]
     show _++aM (aQ r)=_
     rw[hg]
   · rw[eB,usedS_one,hf]
   all_goals simp[aP]
theorem c_records (h:WS B w0 w F G db mb lb mp D L) (htot:(L.m.flatMap (·.2)).length≤1000000) (from_:Int) {l:List ByteArray} (hl:L.records from_=l) {n:Nat} (hn:l.length=n):
 Calls Tryz.prog 238 #[.pointer (some ⟨lb,0,none⟩),.int .i64 from_] w fun e w'=>∃ a c,e= .returned (.slice a n c)∧RdX F w' (.slice a n c) l∧Below w.heap.size w w':=by
 refine(records_any h.l htot from_).mono ?_
 rintro e w' ⟨a,c,m,rfl,hm,ho,hb⟩
 rw[hl]at hm ho
 obtain rfl:m=n:=hm.trans hn
 exact⟨a,c,rfl,rdX_own ho h.d.d.lt,hb⟩
theorem cl_last (h:WS B w0 w F G db mb lb mp D L) {v:Int} (hv:L.last=v):Calls Tryz.prog 59 #[.pointer (some ⟨lb,0,none⟩)] w fun e w'=>e= .returned (.int .i64 v)∧Below w.heap.size w w':=by
 rw[← hv];exact last_any h.l
abbrev dA:ByteArray:=⟨#[97]⟩
abbrev tAbc:ByteArray:=⟨#[97,98,99]⟩
end
section
open Go.RowKit Go.Lib
variable {F F' G G' H:Nat→Prop} {B:Nat} {w w' w0:World} {lb mp db mb k n:Nat} {L L':Lg} {D D':Dk} {S S':List (Nat×Fl)} {M:Option Fl} {z:Option Fz} {f:Fl} {dir r:ByteArray} {size q c:Int} {done:List ByteArray}
abbrev dW:ByteArray:=⟨#[119]⟩
def total (l:List ByteArray):Nat:=(l.map (fun r=>8+r.size)).sum
structure Lp (B:Nat) (w0 w:World) (F G:Nat→Prop) (db mb lb mp:Nat) (size:Int) (S:List (Nat×Fl)) (k:Nat) (L:Lg) (done:List ByteArray):Prop where
 ws:WS B w0 w F G db mb lb mp (dE (aY dW S none) (-1) none k) L
 run:jK dW size L S
 all:cZ S=done
 used:iT S=total done
 last:aP S≤done.length
 len:S.length≤done.length
 acts:k≤3*done.length
 op:done≠[]→L.op≠0
theorem flat_m (hm:L.m=fR S):L.m.flatMap (·.2)=cZ S:=by
 rw[hm]
 unfold fR cZ
 rw[List.flatMap_map]
theorem records_all (hr:cL S) (hm:L.m=fR S):L.records 0=cZ S:=by
 unfold Lg.records
 rw[← flat_m hm,hm]
 congr 1
 refine List.filter_eq_self.2 (fun p hp=>?_)
 obtain⟨x,hx,rfl⟩:=List.mem_map.1 hp
 simp
end
end Go.Proofs.YtpfibkgmfapnjaaGreatDoor
