/- Wal: segments in a map: their numbers, sorted. -/
import Derived.Test.YtpfibkgmfapnjaaGreatDoorS17
import Derived.Test.YtpfibkgmfapnjaaGreatDoorS21
import Derived.Sort.OwnSorted
import Derived.Lib.OwnBridge
set_option linter.unusedSimpArgs false
set_option linter.unusedVariables false
namespace Go.Proofs.YtpfibkgmfapnjaaGreatDoor
section
open Go.RowKit Go.Maps Go.Sort Go.Shelf
def ckZ (k:Int):Value:= .int .i64 k
theorem keyZ:hJ Tryz.prog 3 ckZ (.int .i64):=key_int Tryz.underlying3
variable {w w':World} {mb lb:Nat} {ob:Option Nat} {V:Type} {cv:V→Value} {m:List (Int×V)}
def dRz:Value→Option (DataW Unit×List MemPlace):=fun _=>some (.agg [],[])
def dLz (m:List (Int×V)):List (Lit×DataW Unit):=m.map (fun p=>(Lit.int .i64 p.1,DataW.agg []))
theorem zmap_owns (h:aL ckZ cv w mb m) (hn:∀ p∈m,1≤p.1∧p.1≤72057594037927936) (hl:m.length≤maxLen):w.ownsMap Tryz.prog 3 dRz mb m.length (.map ((dLz m).foldr DataW.insert [])):=by
 obtain⟨es,clock,hb,hs,he⟩:=h
 have hsz:es.size=m.length:=by
  have:=congrArg List.length he
  simpa[iQ]using this
 have hrd:∀ x∈es.toList,∃ s:Int,x.key= .int .i64 s∧1≤s∧s≤72057594037927936:=fun x hx=>by
  have hm:(x.key,x.val)∈es.toList.map (fun x=>(x.key,x.val)):=List.mem_map.2 ⟨x,hx,rfl⟩
  rw[he]at hm
  obtain⟨p,hp,e⟩:=List.mem_map.1 hm
  simp only[Prod.mk.injEq]at e
  exact⟨p.1,e.1.symm,hn p hp⟩
 have hkey:∀ s:Int,1≤s∧s≤72057594037927936→keyOf Tryz.prog 3 (.int .i64 s)=some (.int .i64 s):=fun s hs=>by
  have hw:(Lit.int .i64 s).wf=true:=by
   simp only[Lit.wf,Bool.and_eq_true,decide_eq_true_eq]
   exact⟨by show(-9223372036854775808:Int)≤s;omega,by show s≤(9223372036854775807:Int);omega⟩
  simp[keyOf,mapKey,Tryz.underlying3,hw]
 have hrd2:∀ (x:MapEntry) (s:Int),x.key= .int .i64 s→1≤s∧s≤72057594037927936→WideElems.rd Tryz.prog 3 dRz x=some (.int .i64 s,.agg []):=fun x s hx hs=>by
  have:=WideElems.rd_mk (P:=Tryz.prog) (k:=3) (R:=dRz) (key:=x.key) (val:=x.val) (born:=x.born) (by rw[hx];exact hkey s hs) (yv:=(DataW.agg [],[])) rfl
  exact this
 refine⟨es,clock,hb,⟨by rw[hsz];exact hl,hs,fun x hx=>?_⟩,by rw[hsz];exact Nat.le_refl _,?_⟩
 · obtain⟨s,h1,h2⟩:=hrd x hx
   exact⟨_,hrd2 x s h1 h2⟩
 · congr 2
   unfold dLz
   have h5:es.toList.map (WideElems.rg Tryz.prog 3 dRz)=(es.toList.map (fun x=>(x.key,x.val))).map (fun p=>(match p.1 with| .int _ s=>(Lit.int .i64 s,DataW.agg [])|_=>(Lit.bool false,DataW.nil))):=by
    rw[List.map_map]
    refine List.map_congr_left (fun x hx=>?_)
    obtain⟨s,h1,h2⟩:=hrd x hx
    rw[WideElems.rg_of (hrd2 x s h1 h2)]
    simp[h1]
   rw[h5,he,List.map_map]
   rfl
theorem intKeys_dLz (m:List (Int×V)):(intKeys (.map ((dLz m).foldr DataW.insert []):DataW Unit)).Perm (m.map (·.1)):=by
 have h:=(WideShapes.sorted_perm (dLz m)).map (fun p=>Go.intOf p.1)
 refine h.trans ?_
 unfold dLz
 rw[List.map_map]
 exact .refl _
theorem sortsZ (m:Nat):AnyZI.SortsIn Tryz.prog Tryz.gl_sorted_ren Fence.wide m:=
 ⟨fun blk off cap ss W hH hblk hsz=>callsIn_wide.2 (AnyM.slices_Sort_int Tryz.gl_sortI blk off cap ss W hH hblk hsz),
  fun p cap W=>callsIn_wide.2 (AnyM.slices_Sort_int_none Tryz.gl_sortI p cap W)⟩
def sortZ (l:List Int):List Int:=l.mergeSort (fun x y=>decide (x≤y))
theorem zkeys_at (mb:Option Nat) (w:World):Calls Tryz.prog 229 #[.map mb] w fun e w'=>
 e= .returned (.func (.func 282) #[] #[.pointer (some ⟨w.heap.size,0,none⟩)])∧w'=w.alloc (.cells #[.map mb] 268):=
 (callsIn_wide (n:=5)).1 (AnyZI.keys_in Tryz.gl_keysS Fence.wide 5 trivial rfl mb w)
theorem zsorted_at {Bm:Nat} (h:eS ckZ cv w ob m) (hn:∀ p∈m,1≤p.1∧p.1≤72057594037927936) (hl:m.length≤20000) (hB:w.cell? ⟨Bm,0,none⟩=some (.map ob)):
 Calls Tryz.prog 228 #[.func (.func 282) #[] #[.pointer (some ⟨Bm,0,none⟩)]] w fun e w'=>
  ∃ (v:Value),e= .returned v∧w'.ownsRow w.heap.size 3 1 v m.length ((sortZ (m.map (·.1))).map encZ)∧Below w.heap.size w w':=by
 cases ob with
 |none=>
  have hm:m=[]:=h
  subst hm
  have hseq:SeqGives Fence.wide 2 Tryz.prog 282 #[.pointer (some ⟨Bm,0,none⟩)] encZ (fun ss:List Int=>ss=[]) 0 w:=
   AnyZI.keys_gives_nil (ρ:=Tryz.gl_keysS_ren) {Tryz.gl_keysS with} Fence.wide _ trivial rfl Bm _ (World.block_lt_of_cell? _ _ hB) hB
  have cS:=AnyZI.sorted_in Tryz.gl_sorted Fence.wide 5 trivial trivial trivial trivial rfl (by omega) (sortsZ _) (enters_of Tryz.func281 (by kernel_rfl) rfl) 282 #[.pointer (some ⟨Bm,0,none⟩)] trivial (enters_of Tryz.func282 (by kernel_rfl) rfl) _ 0 (Nat.zero_le _) (by omega) _ hseq
  refine((callsIn_wide (n:=5)).1 cS).mono ?_
  rintro e w' ⟨v,ss,rfl,rfl,hrow,hnil,hb⟩
  exact⟨v,rfl,hrow,hb⟩
 |some mb=>
  have hown:=zmap_owns h hn (by unfold maxLen;omega)
  have hsz:Maps.size (DataW.map ((dLz m).foldr DataW.insert []):DataW Unit)=m.length:=by
   show((dLz m).foldr DataW.insert []).length=m.length
   rw[length_sorted];unfold dLz;rw[List.length_map]
  have hseq:SeqGives Fence.wide 2 Tryz.prog 282 #[.pointer (some ⟨Bm,0,none⟩)] encZ (fun ss=>ss.Perm (intKeys (.map ((dLz m).foldr DataW.insert []):DataW Unit))) (Maps.size (DataW.map ((dLz m).foldr DataW.insert []):DataW Unit)) w:=
   AnyZI.keys_gives (ρ:=Tryz.gl_keysS_ren) {Tryz.gl_keysS with} Fence.wide _ trivial rfl (by omega) Bm mb _ _ _ (World.block_lt_of_cell? _ _ hB) hB hown
  have cS:=AnyZI.sorted_in Tryz.gl_sorted Fence.wide 5 trivial trivial trivial trivial rfl (by omega) (sortsZ _) (enters_of Tryz.func281 (by kernel_rfl) rfl) 282 #[.pointer (some ⟨Bm,0,none⟩)] trivial (enters_of Tryz.func282 (by kernel_rfl) rfl) _ _ (by rw[hsz];unfold maxLen;omega) (by rw[hsz];omega) _ hseq
  refine((callsIn_wide (n:=5)).1 cS).mono ?_
  rintro e w' ⟨v,ss,rfl,hp,hrow,hnil,hb⟩
  have hp2:=hp.trans (intKeys_dLz m)
  have hlen:ss.length=m.length:=by rw[hp2.length_eq,List.length_map]
  rw[hlen,show(ss.mergeSort (fun x y=>decide (x≤y)))=sortZ (m.map (·.1)) from mergeSort_of_perm_i hp2]at hrow
  exact⟨v,rfl,hrow,hb⟩
theorem zkeys_sg (mb:Option Nat) (w:World):Calls Tryz.prog 252 #[.map mb] w fun e w'=>
 e= .returned (.func (.func 298) #[] #[.pointer (some ⟨w.heap.size,0,none⟩)])∧w'=w.alloc (.cells #[.map mb] 162):=
 (callsIn_wide (n:=5)).1 (AnyZI.keys_in Tryz.gl_keysL Fence.wide 5 trivial rfl mb w)
theorem zsorted_sg {Bm:Nat} (h:eS ckZ cv w ob m) (hn:∀ p∈m,1≤p.1∧p.1≤72057594037927936) (hl:m.length≤20000) (hB:w.cell? ⟨Bm,0,none⟩=some (.map ob)):
 Calls Tryz.prog 228 #[.func (.func 298) #[] #[.pointer (some ⟨Bm,0,none⟩)]] w fun e w'=>
  ∃ (v:Value),e= .returned v∧w'.ownsRow w.heap.size 3 1 v m.length ((sortZ (m.map (·.1))).map encZ)∧Below w.heap.size w w':=by
 cases ob with
 |none=>
  have hm:m=[]:=h
  subst hm
  have hseq:SeqGives Fence.wide 2 Tryz.prog 298 #[.pointer (some ⟨Bm,0,none⟩)] encZ (fun ss:List Int=>ss=[]) 0 w:=
   AnyZI.keys_gives_nil (ρ:=Tryz.gl_keysL_ren) {Tryz.gl_keysL with} Fence.wide _ trivial rfl Bm _ (World.block_lt_of_cell? _ _ hB) hB
  have cS:=AnyZI.sorted_in Tryz.gl_sorted Fence.wide 5 trivial trivial trivial trivial rfl (by omega) (sortsZ _) (enters_of Tryz.func281 (by kernel_rfl) rfl) 298 #[.pointer (some ⟨Bm,0,none⟩)] trivial (enters_of Tryz.func298 (by kernel_rfl) rfl) _ 0 (Nat.zero_le _) (by omega) _ hseq
  refine((callsIn_wide (n:=5)).1 cS).mono ?_
  rintro e w' ⟨v,ss,rfl,rfl,hrow,hnil,hb⟩
  exact⟨v,rfl,hrow,hb⟩
 |some mb=>
  have hown:=zmap_owns h hn (by unfold maxLen;omega)
  have hsz:Maps.size (DataW.map ((dLz m).foldr DataW.insert []):DataW Unit)=m.length:=by
   show((dLz m).foldr DataW.insert []).length=m.length
   rw[length_sorted];unfold dLz;rw[List.length_map]
  have hseq:SeqGives Fence.wide 2 Tryz.prog 298 #[.pointer (some ⟨Bm,0,none⟩)] encZ (fun ss=>ss.Perm (intKeys (.map ((dLz m).foldr DataW.insert []):DataW Unit))) (Maps.size (DataW.map ((dLz m).foldr DataW.insert []):DataW Unit)) w:=
   AnyZI.keys_gives (ρ:=Tryz.gl_keysL_ren) {Tryz.gl_keysL with} Fence.wide _ trivial rfl (by omega) Bm mb _ _ _ (World.block_lt_of_cell? _ _ hB) hB hown
  have cS:=AnyZI.sorted_in Tryz.gl_sorted Fence.wide 5 trivial trivial trivial trivial rfl (by omega) (sortsZ _) (enters_of Tryz.func281 (by kernel_rfl) rfl) 298 #[.pointer (some ⟨Bm,0,none⟩)] trivial (enters_of Tryz.func298 (by kernel_rfl) rfl) _ _ (by rw[hsz];unfold maxLen;omega) (by rw[hsz];omega) _ hseq
  refine((callsIn_wide (n:=5)).1 cS).mono ?_
  rintro e w' ⟨v,ss,rfl,hp,hrow,hnil,hb⟩
  have hp2:=hp.trans (intKeys_dLz m)
  have hlen:ss.length=m.length:=by rw[hp2.length_eq,List.length_map]
  rw[hlen,show(ss.mergeSort (fun x y=>decide (x≤y)))=sortZ (m.map (·.1)) from mergeSort_of_perm_i hp2]at hrow
  exact⟨v,rfl,hrow,hb⟩
end
section
open Go.RowKit Go.Maps Go.Sort Go.Shelf
structure Sg where
 a:Option Addr
 c:Nat
 rs:List ByteArray
abbrev Sg.val (x:Sg):Value:= .slice x.a x.rs.length x.c
def cvS (x:Sg):Value:=x.val
abbrev tSeg:TypeId:=162
theorem und_seg:Tryz.prog.underlying tSeg=some (.map 3 68):=Tryz.underlying162
structure Lg.Ok (L:Lg):Prop where
 dir:L.dir.size≤40
 key:∀ p∈L.m,1≤p.1∧p.1≤4294967295
 rise:(L.m.map (·.1)).Pairwise (fun a b=>a<b)
 few:L.m.length≤20000
 recs:∀ p∈L.m,p.2.length≤1000000
 op:0≤L.op∧L.op≤4294967295
 long:0≤L.long∧L.long≤1048576
 left:L.left.size≤1048576
 size:0≤L.size∧L.size≤1048576
structure eQ (G:Nat→Prop) (w:World) (lb mp db:Nat) (ms:List (Int×Sg)) (L:Lg):Prop where
 c0:w.cell? ⟨lb,0,none⟩=some (.pointer (some ⟨db,0,none⟩))
 c1:w.cell? ⟨lb,1,none⟩=some (.string L.dir)
 c2:w.cell? ⟨lb,2,none⟩=some (.int .i64 L.size)
 c3:w.cell? ⟨lb,3,none⟩=some (.map (some mp))
 c4:w.cell? ⟨lb,4,none⟩=some (.int .i64 L.op)
 c5:w.cell? ⟨lb,5,none⟩=some (.int .i64 L.long)
 c6:w.cell? ⟨lb,6,none⟩=some (.bool L.torn)
 c7:w.cell? ⟨lb,7,none⟩=some (.string L.left)
 fz:∀ j,w.frozen? ⟨lb,j,none⟩=false
 mpl:aL ckZ cvS w mp ms
 eq:L.m=ms.map (fun p=>(p.1,p.2.rs))
 rows:∀ p∈ms,bE eStr w 0 p.2.val p.2.rs
 sep:ms.Pairwise (fun p p'=>∀ q,p.2.val.ownBlock=some q→p'.2.val.ownBlock≠some q)
 ne:lb≠mp
 off:∀ p∈ms,∀ q,p.2.val.ownBlock=some q→q≠lb∧q≠mp
 gl:G lb
 gm:G mp
 gr:∀ p∈ms,∀ q,p.2.val.ownBlock=some q→G q
 lt:∀ q,G q→q<w.heap.size
 ok:L.Ok
def dO (G:Nat→Prop) (w:World) (lb mp db:Nat) (L:Lg):Prop:=∃ ms,eQ G w lb mp db ms L
variable {G F:Nat→Prop} {w w':World} {lb mp db mb:Nat} {ms:List (Int×Sg)} {L:Lg} {D:Dk}
theorem eQ.tn (h:eQ G w lb mp db ms L) {H:Nat→Prop} (ht:Tn H w w') (hH:∀ q,G q→¬ H q):eQ G w' lb mp db ms L:=by
 have hl:=World.block_lt_of_cell? _ _ h.c0
 have hn:=hH lb h.gl
 exact⟨ht.cell h.c0 hn,ht.cell h.c1 hn,ht.cell h.c2 hn,ht.cell h.c3 hn,ht.cell h.c4 hn,ht.cell h.c5 hn,ht.cell h.c6 hn,ht.cell h.c7 hn,fun j=>(ht.frozen (p:=⟨lb,j,none⟩) hl hn).trans (h.fz j),h.mpl.tn ht (hH mp h.gm),h.eq,
  fun p hp=>ht.row (h.rows p hp) (fun q hq=>hH q (h.gr p hp q hq)),h.sep,h.ne,h.off,h.gl,h.gm,h.gr,fun q hq=>Nat.lt_of_lt_of_le (h.lt q hq) ht.size,h.ok⟩
theorem dO.tn (h:dO G w lb mp db L) {H:Nat→Prop} (ht:Tn H w w') (hH:∀ q,G q→¬ H q):dO G w' lb mp db L:=by
 obtain⟨ms,h⟩:=h
 exact⟨ms,h.tn ht hH⟩
theorem dO.below (h:dO G w lb mp db L) (hb:Below w.heap.size w w'):dO G w' lb mp db L:=h.tn (Tn.ofBelow (F:=fun _=>False) hb) (fun _ _ h=>h)
theorem eQ.keys (h:eQ G w lb mp db ms L):L.m.map (·.1)=ms.map (·.1):=by rw[h.eq,List.map_map];rfl
theorem eQ.len (h:eQ G w lb mp db ms L):ms.length=L.m.length:=by rw[h.eq,List.length_map]
theorem eQ.get (h:eQ G w lb mp db ms L) (n:Int):(aH ms n).map (·.rs)=aH L.m n:=by
 rw[h.eq]
 clear h
 unfold aH
 induction ms with
 |nil=>rfl
 |cons p l ih=>
  by_cases hp:p.1=n
  · simp[hp]
  · simp only[List.map_cons,List.find?_cons,hp,decide_false]
    exact ih
theorem sortZ_rise {l:List Int} (h:l.Pairwise (fun a b=>a<b)):sortZ l=l:=by
 unfold sortZ
 refine List.mergeSort_of_pairwise (h.imp (fun hab=>?_))
 simp
 omega
theorem w_none (h:dO G w lb mp db L):Calls Tryz.prog 156 #[.pointer (some ⟨lb,0,none⟩)] w fun e w'=>e= .returned (.bool false)∧w=w':=by
 obtain⟨ms,h⟩:=h
 have c0:=h.c0
 clear h
 go_enter Tryz.func156,Tryz.ntmps156
 go_wp2
 go_ret
 exact⟨rfl,rfl⟩
abbrev iCellsZ (l:List Int):List Value:=l.map encZ
def OwnZ (w:World) (B:Nat) (v:Value) (l:List Int):Prop:=w.ownsRow B 3 1 v l.length (l.map encZ)
theorem OwnZ.at_ {B n c:Nat} {a:Option Addr} {l:List Int} (h:OwnZ w B (.slice a n c) l) {i:Nat} (hi:i<l.length):∃ g,a=some ⟨g,0,none⟩∧B≤g∧w.cell? ⟨g,i,none⟩=some (.int .i64 l[i]):=by
 obtain⟨a',c',hv,_,_⟩:=aI h
 injection hv with v1 v2 v3
 subst v2
 have h0:=h
 rcases h.2 with⟨e,e0⟩|⟨g,cap',cur,e,hg,hh,hn',hc,hcl,htk⟩
 · omega
 · injection e with e1 e2 e3
   subst e1
   refine⟨g,rfl,hg,?_⟩
   have h5:=World.ownsRow.cellAt (base:=B) (e:=3) (size:=1) h0 i (by omega)
   rw[h5,List.getElem?_map,List.getElem?_eq_getElem hi]
   rfl
set_option maxHeartbeats 1000000 in
theorem jB (h:dO G w lb mp db L):Calls Tryz.prog 167 #[.pointer (some ⟨lb,0,none⟩)] w fun e w'=>∃ a c,e= .returned (.slice a L.m.length c)∧OwnZ w' w.heap.size (.slice a L.m.length c) (L.m.map (·.1))∧Below w.heap.size w w':=by
 have hnone:=w_none h
 obtain⟨ms,h⟩:=h
 have c3:=h.c3
 have hk:=zsorted_sg (w:=w.alloc (.cells #[.map (some mp)] 162)) (Bm:=w.heap.size) (ob:=some mp) (cv:=cvS) (m:=ms) (aL.below h.mpl ((Below.refl _ _).alloc (Nat.le_refl _) _)) (fun p hp=>by
  have:=h.ok.key (p.1,p.2.rs) (by rw[h.eq];exact List.mem_map.2 ⟨p,hp,rfl⟩)
  simp only at this
  omega) (by rw[h.len];exact h.ok.few) (by simp[go_sem])
 have hs:sortZ (ms.map (·.1))=L.m.map (·.1):=by rw[← h.keys];exact sortZ_rise h.ok.rise
 have hln:=h.len
 have HS:=aB (aA hs hln)
 have HK:=aB hk
 clear h hk hs hln
 go_enter Tryz.func167,Tryz.ntmps167
 go_wp2_with (first
  |(go_at_call 156;go_loud (refine hnone.mono ?_);rintro e w2 ⟨rfl,rfl⟩)
  |(go_at_call 252;go_loud (refine(zkeys_sg _ _).mono ?_);rintro e w' ⟨rfl,rfl⟩))
 refine HK.out.mono ?_
 rintro e w1 ⟨v,rfl,hrow,hb1⟩
 rw[HS.out.1,HS.out.2]at hrow
 have hz0:(w.alloc (.cells #[.map (some mp)] 162)).heap.size=w.heap.size+1:=by simp
 have hb01:Below w.heap.size w w1:=((Below.refl _ _).alloc (Nat.le_refl _) _).trans (hb1.mono (by simp))
 have hlm:(L.m.map (·.1)).length=L.m.length:=List.length_map _
 have hrow2:OwnZ w1 w.heap.size v (L.m.map (·.1)):=by
  unfold OwnZ
  rw[hlm]
  exact aK hrow (by rw[hz0];omega)
 have HR:=aB (aA hrow2 hb01)
 obtain⟨a,c,hv,_,_⟩:=aI hrow
 clear hrow hb1 hrow2 hb01
 subst hv
 go_wp2
 go_ret
 exact⟨a,c,rfl,HR.out.1,HR.out.2⟩
set_option maxHeartbeats 1000000 in
theorem last_any (h:dO G w lb mp db L):Calls Tryz.prog 59 #[.pointer (some ⟨lb,0,none⟩)] w fun e w'=>e= .returned (.int .i64 L.last)∧Below w.heap.size w w':=by
 have hn:=jB h
 have hfew:L.m.length≤20000:=by obtain⟨ms,h⟩:=h;exact h.ok.few
 obtain⟨ks,hks⟩:∃ ks,L.m.map (·.1)=ks:=⟨_,rfl⟩
 have hf:L.last=ks.getLastD 0:=by unfold Lg.last;rw[hks]
 have hl:L.m.length=ks.length:=by rw[← hks,List.length_map]
 rw[hks,hl]at hn
 rw[hl]at hfew
 rw[hf]
 obtain⟨n,hnn⟩:∃ n,ks.length=n:=⟨_,rfl⟩
 rw[hnn]at hn hfew
 have HN:=aB hn
 have HNN:=aB hnn
 clear hn hks hf hl hnn h
 go_enter Tryz.func59,Tryz.ntmps59
 go_wp2_with fail
 refine HN.out.mono ?_
 rintro e w1 ⟨a,c,rfl,hown,hb⟩
 have HB:=aB hb
 clear hb
 rcases Nat.eq_zero_or_pos n with h0|h0
 · have t0:¬ (0:Int)<(n:Int):=by omega
   have hk:ks=[]:=List.eq_nil_of_length_eq_zero (by rw[HNN.out];exact h0)
   have HK:Hid (ks.getLastD 0=0):=by unfold Hid;rw[hk];rfl
   clear hown hk
   go_wp2
   go_ret
   exact⟨by rw[HK.out];rfl,HB.out⟩
 · have t0:(0:Int)<(n:Int):=by omega
   obtain⟨g,rfl,_,hc⟩:=hown.at_ (i:=n - 1) (by rw[HNN.out];omega)
   have hk:ks.getLastD 0=ks[n - 1]'(by rw[HNN.out];omega):=by
    have h9:=HNN.out
    rcases List.eq_nil_or_concat ks with rfl|⟨l,x,rfl⟩
    · simp at h9;omega
    · subst h9
      simp
   rw[← hk]at hc
   obtain⟨v,hv⟩:∃ v,ks.getLastD 0=v:=⟨_,rfl⟩
   rw[hv]at hc
   have HV:=aB hv
   obtain⟨k,rfl⟩:∃ k,n=k+1:=⟨n - 1,by omega⟩
   rw[Nat.add_sub_cancel]at hc
   have e1:((k+1:Nat):Int) - 1=(k:Int):=by omega
   clear hk hv hown
   go_wp2
   go_ret
   exact⟨by rw[HV.out];rfl,HB.out⟩
end
section
open Go.RowKit Go.Maps Go.Sort Go.Shelf
variable {G F:Nat→Prop} {w w':World} {lb mp db mb:Nat} {ms:List (Int×Sg)} {L:Lg} {D:Dk}
def eI (m:List (Int×List ByteArray)) (from_:Int) (i:Nat):List ByteArray:=((m.take i).filter (fun p=>decide (from_≤p.1))).flatMap (·.2)
theorem recsTo_succ (m:List (Int×List ByteArray)) (from_:Int) (i:Nat) (hi:i<m.length):eI m from_ (i+1)=eI m from_ i++(if from_≤m[i].1 then m[i].2 else[]):=by
 unfold eI
 rw[List.take_succ_eq_append_getElem hi,List.filter_append,List.flatMap_append]
 by_cases h:from_≤m[i].1<;>simp[h]
theorem flatMap_sub {α β:Type} {f:α→List β} {a b:List α} (h:a.Sublist b):(a.flatMap f).length≤(b.flatMap f).length:=by
 induction h with
 |slnil=>simp
 |cons a _ ih=>rw[List.flatMap_cons,List.length_append];omega
 |cons_cons a _ ih=>rw[List.flatMap_cons,List.flatMap_cons,List.length_append,List.length_append];omega
theorem recsTo_le (m:List (Int×List ByteArray)) (from_:Int) (i:Nat):(eI m from_ i).length≤(m.flatMap (·.2)).length:=
 flatMap_sub (List.filter_sublist.trans (List.take_sublist i m))
theorem gH (w:World):(zeroValue 68).run Tryz.prog w= .ok (.slice none 0 0) w:=by kernel_rfl
theorem eQ.nth (h:eQ G w lb mp db ms L) {i:Nat} (hi:i<L.m.length):∃ x:Sg,aH ms (L.m[i]).1=some x∧x.rs=(L.m[i]).2∧((L.m[i]).1,x)∈ms:=by
 have hi2:i<ms.length:=by rw[h.len];exact hi
 have he:L.m[i]=(ms[i].1,ms[i].2.rs):=by
  have h1:=h.eq
  have h2:L.m[i]?=(ms.map (fun p=>(p.1,p.2.rs)))[i]?:=by rw[h1]
  rw[List.getElem?_eq_getElem hi,List.getElem?_map,List.getElem?_eq_getElem hi2]at h2
  exact Option.some.inj h2
 rw[he]
 have hn:(ms.map (·.1)).Nodup:=by
  rw[← h.keys,List.nodup_iff_pairwise_ne]
  exact h.ok.rise.imp (fun hab e=>by omega)
 have hm:ms[i]∈ms:=List.getElem_mem hi2
 obtain⟨⟨kx,x⟩,hx⟩:∃ p,ms[i]=p:=⟨_,rfl⟩
 rw[hx]at hm ⊢
 refine⟨x,?_,rfl,hm⟩
 clear he hx h hi hi2
 obtain⟨A,B,rfl⟩:=List.append_of_mem hm
 rw[List.map_append,List.map_cons,List.nodup_append]at hn
 rw[cQ (fun p hp e=>hn.2.2 p.1 (List.mem_map_of_mem hp) kx (by simp) e),gR]
set_option maxRecDepth 100000 in
set_option maxHeartbeats 2000000 in
theorem records_any (h:dO G w lb mp db L) (htot:(L.m.flatMap (·.2)).length≤1000000) (from_:Int):Calls Tryz.prog 238 #[.pointer (some ⟨lb,0,none⟩),.int .i64 from_] w fun e w'=>
 ∃ a c n,e= .returned (.slice a n c)∧n=(L.records from_).length∧bE eStr w' w.heap.size (.slice a n c) (L.records from_)∧Below w.heap.size w w':=by
 have hn:=jB h
 have hend:eI L.m from_ L.m.length=L.records from_:=by unfold eI Lg.records;rw[List.take_length]
 have hfew:L.m.length≤20000:=by obtain⟨ms,h⟩:=h;exact h.ok.few
 obtain⟨n,hnn⟩:∃ n,L.m.length=n:=⟨_,rfl⟩
 rw[hnn]at hn hend hfew
 have HN:=aB hn
 have HE:=aB (aA hend (aA hnn (aA h htot)))
 clear hn hend hnn h htot
 go_enter Tryz.func238,Tryz.ntmps238
 go_wp2_with fail
 refine HN.out.mono ?_
 rintro e w1 ⟨ka,kc,rfl,hown,hb1⟩
 have H1:=aB (aA hown hb1)
 clear hown hb1
 go_wp2
 go_loopw [5,7,11] (fun v _ iv wr=>∃ i:Nat,i≤n∧iv= .int .i64 (i:Int)∧∃ a c k,v= .slice a k c∧k=(eI L.m from_ i).length∧bE eStr wr w1.heap.size (.slice a k c) (eI L.m from_ i)∧Below w1.heap.size w1 wr) (fun _ _ iv _=>n - (intOf iv).toNat)
 case atStart=>exact⟨0,by omega,rfl,none,0,0,rfl,rfl,World.ownsRow_nil _ _ _ _,Below.refl _ _⟩
 case round=>
  obtain⟨i,hi,rfl,oa,oc,k,rfl,hk,hO,hb⟩:=hrel
  have hbz:=hb.size
  have h01:=H1.out.2.size
  have HB:=aB (aA hk (aA hO hb))
  clear hO hk
  by_cases hlt:i<n
  · have hi1:i<L.m.length:=by rw[HE.out.2.1];exact hlt
    have hik:i<(L.m.map (·.1)).length:=by rw[List.length_map];exact hi1
    obtain⟨g,rfl,hgb,d0⟩:=H1.out.1.at_ hik
    rw[List.getElem_map]at d0
    obtain⟨ms,hm⟩:=HE.out.2.2.1
    obtain⟨x,hx,hxr,hxm⟩:=hm.nth hi1
    have hm2:=hm.tn (Tn.ofBelow (F:=fun _=>False) (H1.out.2.trans (hb.mono h01))) (fun _ _ h=>h)
    have hlk:(Instr.lookup tSeg (.map (some mp)) (.int .i64 (L.m[i]).1) false).run Tryz.prog wr= .ok x.val wr:=by
     have h5:=aL.look hm2.mpl keyZ und_seg (gH _) false (L.m[i]).1
     rw[hx]at h5
     exact h5
    have hsx:Src eStr wr x.val x.rs:=bE.src (hm2.rows _ hxm)
    have hst:=recsTo_succ L.m from_ i hi1
    have hle:=recsTo_le L.m from_ (i+1)
    obtain⟨xa,xc,xr⟩:=x
    simp only at hxr hsx
    obtain⟨nk,hnk⟩:∃ nk,(L.m[i]).1=nk:=⟨_,rfl⟩
    rw[hnk]at d0 hlk hst
    rw[← hxr]at hst
    have d1:wr.cell? ⟨g,i,none⟩=some (.int .i64 nk):=(hb.cell (p:=⟨g,i,none⟩) (World.block_lt_of_cell? _ _ d0)).trans d0
    have c3:=hm2.c3
    have r1:(i:Int)<(n:Int):=by omega
    obtain⟨xl,hxl⟩:∃ xl,xr.length=xl:=⟨_,rfl⟩
    have hsx2:Src eStr wr (.slice xa xr.length xc) xr:=hsx
    have hlk2:(Instr.lookup tSeg (.map (some mp)) (.int .i64 nk) false).run Tryz.prog wr= .ok (.slice xa xr.length xc) wr:=hlk
    rw[hxl]at hsx2 hlk2
    have HX:=aB (aA hsx2 (aA hst (aA hle hxl)))
    clear hsx hsx2 hlk hst hle hm hm2 hx hxm hnk hb hxr hxl
    by_cases hf:from_≤nk
    · have HF:Hid (eI L.m from_ (i+1)=eI L.m from_ i++xr):=by unfold Hid;rw[HX.out.2.1,if_pos hf]
      have hk1:=HB.out.1
      have hlen:(eI L.m from_ i).length+xr.length≤100000000:=by
       have h1:=HX.out.2.2.1
       rw[HF.out,List.length_append]at h1
       have:=HE.out.2.2.2
       omega
      have HL:=aB (aA hlen hk1)
      clear hlen hk1 d0
      go_wp2_with (at_builtin;go_loud (refine fK eStr rfl _ _ rfl rfl rfl (v:= .slice oa k oc) (l:=eI L.m from_ i) (l2:=xr) HB.out.2.1 HX.out.1 HL.out.1 hbz ?_);intro a5 cap5 w5 ho5 hb5 hg5 hv5;have H5:=aB (aA ho5 hb5);clear ho5 hb5 hg5 hv5)
      go_roundw
      case rel=>exact⟨i+1,by omega,by go_num,a5,cap5,_,rfl,by rw[HF.out,List.length_append],by rw[HF.out];exact H5.out.1,HB.out.2.2.trans H5.out.2⟩
      case measure=>simp[intOf];omega
    · have HF:Hid (eI L.m from_ (i+1)=eI L.m from_ i):=by unfold Hid;rw[HX.out.2.1,if_neg hf,List.append_nil]
      clear d0
      go_wp2
      go_roundw
      case rel=>exact⟨i+1,by omega,by go_num,oa,oc,k,rfl,by rw[HF.out];exact HB.out.1,by rw[HF.out];exact HB.out.2.1,HB.out.2.2⟩
      case measure=>simp[intOf];omega
  · obtain rfl:i=n:=by omega
    clear hb
    go_wp2
    go_ret
    exact⟨oa,oc,k,rfl,by rw[HB.out.1,HE.out.1],by rw[← HE.out.1];exact aK HB.out.2.1 h01,H1.out.2.trans (HB.out.2.2.mono h01)⟩
end
end Go.Proofs.YtpfibkgmfapnjaaGreatDoor
