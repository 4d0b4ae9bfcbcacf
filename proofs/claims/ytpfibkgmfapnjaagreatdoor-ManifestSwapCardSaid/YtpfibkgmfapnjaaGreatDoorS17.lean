/- Wal: the walk of good: a panic of read's is met. -/
import Derived.Test.YtpfibkgmfapnjaaGreatDoorS16
import Derived.Defers
import Derived.Recover
import Derived.Laws.Pointers
import Derived.Test.YtpfibkgmfapnjaaGreatDoorS15
import Derived.Test.YtpfibkgmfapnjaaGreatDoorS7
import Derived.Test.YtpfibkgmfapnjaaGreatDoorS13
set_option linter.unusedSimpArgs false
set_option linter.unusedVariables false
namespace Go.Proofs.YtpfibkgmfapnjaaGreatDoor
section
open Go.RowKit
theorem assert_far (x:Value) (w:World):(Instr.typeAssert (.iface 274 x) 20 274 true).run Tryz.prog w= .ok (.tuple #[x,.bool true]) w:=by kernel_rfl
theorem gC {w:World} {a b i j:Nat} {u v:Value} (h:w.cell? ⟨b,j,none⟩=some u) (hab:a≠b):(w.setCell ⟨a,i,none⟩ v).cell? ⟨b,j,none⟩=some u:=by
 rw[World.cell?_setCell_other _ _ _ _ (by intro e;injection e with e1 e2;exact hab e1)]
 exact h
theorem gX {w:World} {b i j:Nat} {v u:Value} (h:w.cell? ⟨b,j,none⟩=some u) (hij:i≠j):(w.setCell ⟨b,i,none⟩ v).cell? ⟨b,j,none⟩=some u:=by
 rw[World.cell?_setCell_other _ _ _ _ (by intro e;injection e with _ e2;exact hij e2)]
 exact h
def Caught (a b:Nat) (s:Value) (n:Int) (w w':World):Prop:=
 w'.cell? ⟨a,0,none⟩=some s∧w'.cell? ⟨a,1,none⟩=some (.int .i64 n)∧w'.cell? ⟨b,0,none⟩=some (.bool false)∧Tn (fun q=>q=a∨q=b) w w'
set_option maxHeartbeats 1000000 in
theorem good_catch (a b:Nat) (sa:Option Addr) (sl sc:Nat) (n:Int) (w:World) (fa:∀ j,w.frozen? ⟨a,j,none⟩=false) (fb:w.frozen? ⟨b,0,none⟩=false)
 (ca:∃ v,w.cell? ⟨a,0,none⟩=some v) (ca1:∃ v,w.cell? ⟨a,1,none⟩=some v) (cb:∃ v,w.cell? ⟨b,0,none⟩=some v) (hab:a≠b):
 CallsD Tryz.prog 283 #[.pointer (some ⟨a,0,none⟩),.pointer (some ⟨b,0,none⟩)] (.panicking [{v:= .iface 274 (.agg #[.slice sa sl sc,.int .i64 n]),recovered:=false}]) w fun e u' w'=>
  e= .returned (.tuple #[])∧u'= .panicking [{v:= .iface 274 (.agg #[.slice sa sl sc,.int .i64 n]),recovered:=true}]∧Caught a b (.slice sa sl sc) n w w':=by
 obtain⟨va,ca⟩:=ca
 obtain⟨va1,ca1⟩:=ca1
 obtain⟨vb,cb⟩:=cb
 have fa0:=fa 0
 have fa1:=fa 1
 have la:=World.block_lt_of_cell? _ _ ca
 have lb:=World.block_lt_of_cell? _ _ cb
 refine callsD_of_wpS Tryz.func283 rfl fun c₀ cs hu=>?_
 apply wpS_seq
 apply wpS_region
 simp[wpOpsS,go_sem,recoverD,hu,Tryz.ntmps283,Exit.thenS]
 refine wpS_of_wp ?_
 simp only[List.replicate,Array.replicate,List.append_toArray,List.setIfInBounds_toArray,List.set_cons_zero,List.set_cons_succ,List.cons_append,List.nil_append]
 have hta:=assert_far
 have hnot:∀ (x:Bool) (w:World),(Op.unary .not (.bool x)).run Tryz.prog w= .ok (.bool (!x)) w:=fun _ _=>rfl
 go_wp2
 refine⟨rfl,_,rfl,_,results_none rfl _ _ _,rfl,rfl,?_⟩
 have h1:(((w.setCell ⟨a,0,none⟩ (.slice sa sl sc)).setCell ⟨a,1,none⟩ (.int .i64 n)).setCell ⟨b,0,none⟩ (.bool false)).cell? ⟨a,0,none⟩=some (.slice sa sl sc):=by
  rw[gC (gX (World.cell?_setCell_same _ _ _ ca) (by omega)) (Ne.symm hab)]
 have h2:(((w.setCell ⟨a,0,none⟩ (.slice sa sl sc)).setCell ⟨a,1,none⟩ (.int .i64 n)).setCell ⟨b,0,none⟩ (.bool false)).cell? ⟨a,1,none⟩=some (.int .i64 n):=by
  rw[gC (World.cell?_setCell_same _ _ _ (gX ca1 (by omega))) (Ne.symm hab)]
 have h3:(((w.setCell ⟨a,0,none⟩ (.slice sa sl sc)).setCell ⟨a,1,none⟩ (.int .i64 n)).setCell ⟨b,0,none⟩ (.bool false)).cell? ⟨b,0,none⟩=some (.bool false):=World.cell?_setCell_same _ _ _ (gC (gC cb hab) hab)
 have ht:Tn (fun q=>q=a∨q=b) w (((w.setCell ⟨a,0,none⟩ (.slice sa sl sc)).setCell ⟨a,1,none⟩ (.int .i64 n)).setCell ⟨b,0,none⟩ (.bool false)):=
  ((Tn.setCell (F:=fun q=>q=a∨q=b) w ⟨a,0,none⟩ _ (.inl rfl)).trans (Tn.setCell (F:=fun q=>q=a∨q=b) _ ⟨a,1,none⟩ _ (.inl rfl))).trans (Tn.setCell (F:=fun q=>q=a∨q=b) _ ⟨b,0,none⟩ _ (.inr rfl))
 have hb:=(Below.refl (((w.setCell ⟨a,0,none⟩ (.slice sa sl sc)).setCell ⟨a,1,none⟩ (.int .i64 n)).setCell ⟨b,0,none⟩ (.bool false)).heap.size (((w.setCell ⟨a,0,none⟩ (.slice sa sl sc)).setCell ⟨a,1,none⟩ (.int .i64 n)).setCell ⟨b,0,none⟩ (.bool false))).alloc (Nat.le_refl _) (.cells #[.slice sa sl sc,.int .i64 n] 274)
 exact⟨(hb.cell (p:=⟨a,0,none⟩) (World.block_lt_of_cell? _ _ h1)).trans h1,(hb.cell (p:=⟨a,1,none⟩) (World.block_lt_of_cell? _ _ h2)).trans h2,(hb.cell (p:=⟨b,0,none⟩) (World.block_lt_of_cell? _ _ h3)).trans h3,ht.trans (Tn.ofBelow hb)⟩
theorem good_idle (a b:Nat) (w:World):
 CallsD Tryz.prog 283 #[.pointer (some ⟨a,0,none⟩),.pointer (some ⟨b,0,none⟩)] .returning w fun e u' w'=>e= .returned (.tuple #[])∧u'= .returning∧w'=w:=by
 refine callsD_of_wpS Tryz.func283 rfl fun c₀ cs hu=>?_
 apply wpS_seq
 apply wpS_region
 simp[wpOpsS,go_sem,recoverD,hu,Tryz.ntmps283,Exit.thenS]
 refine wpS_of_wp ?_
 simp only[List.replicate,Array.replicate,List.append_toArray,List.setIfInBounds_toArray,List.set_cons_zero,List.set_cons_succ,List.cons_append,List.nil_append]
 go_wp2
 refine⟨rfl,.returning,?_,_,results_none rfl _ _ _,rfl,rfl,rfl⟩
 cases c₀
 simp_all
def GoodE (b:ByteArray) (w:World) (e:Ending) (w':World):Prop:=
 ∃ a c,e= .returned (.tuple #[.agg #[.slice a (aM b).length c,.int .i64 (dI b:Int)],.bool (decide (dI b=b.size))])∧bE eStr w' w.heap.size (.slice a (aM b).length c) (aM b)
theorem good_end {b:ByteArray} {w w2 w3:World} {a:Option Addr} {k c n:Nat} {g:Bool} (hk:(aM b).length=k) (hn:dI b=n) (hg:g=decide (n=b.size)) (ho:bE eStr w2 (w.heap.size+2) (.slice a k c) (aM b)) (hb:Below w.heap.size w w2) (ht:Tn (fun q=>q=w.heap.size∨q=w.heap.size+1) w2 w3):
 GoodE b w (.returned (.tuple #[.agg #[.slice a k c,.int .i64 (n:Int)],.bool g])) w3∧Below w.heap.size w w3:=by
 subst hk hn hg
 refine⟨⟨a,c,rfl,aK (ht.row ho (fun q hq e=>?_)) (by omega)⟩,hb.trans (ht.below hb.size (fun q hq=>by rcases hq with rfl|rfl<;>omega))⟩
 have:=(ho.lt q hq).1
 rcases e with rfl|rfl<;>omega
set_option maxRecDepth 100000 in
set_option maxHeartbeats 4000000 in
theorem w_good (b:ByteArray) (hb:b.size≤1048576) (w:World):Calls Tryz.prog 230 #[.string b] w fun e w'=>GoodE b w e w'∧Below w.heap.size w w':=by
 have hmf:∀ (fn:Fn) (first cap:Array Value) (w:World),(Instr.makeFunc fn first cap).run Tryz.prog w= .ok (.func fn first cap) w:=fun _ _ _ _=>rfl
 obtain⟨W1,hW1⟩:∃ W1,(w.alloc (.cells #[.slice none 0 0,.int .i64 0] 274)).alloc (.cells #[.bool false] 4)=W1:=⟨_,rfl⟩
 have q0:W1.cell? ⟨w.heap.size,0,none⟩=some (.slice none 0 0):=by rw[← hW1];simp[go_sem]
 have q1:W1.cell? ⟨w.heap.size,1,none⟩=some (.int .i64 0):=by rw[← hW1];simp[go_sem]
 have q2:W1.cell? ⟨w.heap.size+1,0,none⟩=some (.bool false):=by rw[← hW1];simp[go_sem]
 have f0:∀ j,W1.frozen? ⟨w.heap.size,j,none⟩=false:=fun j=>by rw[← hW1];simp[go_sem]
 have f1:W1.frozen? ⟨w.heap.size+1,0,none⟩=false:=by rw[← hW1];simp[go_sem]
 have b1:Below w.heap.size w W1:=by rw[← hW1];exact((Below.refl _ _).alloc (Nat.le_refl _) _).alloc (by simp) _
 have hz:W1.heap.size=w.heap.size+2:=by rw[← hW1];simp
 have hR:=w_read b hb W1
 have H1:=aB (aA b1 hz)
 have HF:=aB f0
 clear b1 hz f0
 go_enter_defers Tryz.func230,Tryz.ntmps230
 go_wp2_with fail
 refine hR.mono ?_
 rintro e w2 ⟨hre,hb2⟩
 have p0:=(hb2.cell (p:=⟨w.heap.size,0,none⟩) (World.block_lt_of_cell? _ _ q0)).trans q0
 have p1:=(hb2.cell (p:=⟨w.heap.size,1,none⟩) (World.block_lt_of_cell? _ _ q1)).trans q1
 have p2:=(hb2.cell (p:=⟨w.heap.size+1,0,none⟩) (World.block_lt_of_cell? _ _ q2)).trans q2
 have g0:∀ j,w2.frozen? ⟨w.heap.size,j,none⟩=false:=fun j=>(hb2.frozen (p:=⟨w.heap.size,j,none⟩) (by have:=H1.out.2;show w.heap.size<_;omega)).trans (HF.out j)
 have g2:=(hb2.frozen (p:=⟨w.heap.size+1,0,none⟩) (World.block_lt_of_cell? _ _ q2)).trans f1
 have hbw:Below w.heap.size w w2:=H1.out.1.trans (hb2.mono H1.out.1.size)
 have H2:=aB (aA hb2 hbw)
 clear hb2 hbw q0 q1 q2 f1 hR
 obtain⟨a,c,hown,hre⟩:=hre
 have HO:=aB hown
 have hzz:=H1.out.2
 rw[hzz]at hown
 obtain⟨k,hk⟩:∃ k,(aM b).length=k:=⟨_,rfl⟩
 obtain⟨n,hn⟩:∃ n,dI b=n:=⟨_,rfl⟩
 rw[hk,hn]at hre
 have HK:=aB (aA hk hn)
 have g00:=g0 0
 have g01:=g0 1
 have HG:=aB g0
 rw[hk]at hown
 have HOW:=aB hown
 clear hk hn g0 hown
 rcases hre with⟨hgn,rfl⟩|⟨hgn,rfl⟩
 · have HGN:=aB hgn
   clear hgn
   obtain⟨W4,hW4⟩:∃ W4,((w2.setCell ⟨w.heap.size,0,none⟩ (.slice a k c)).setCell ⟨w.heap.size,1,none⟩ (.int .i64 (n:Int))).setCell ⟨w.heap.size+1,0,none⟩ (.bool true)=W4:=⟨_,rfl⟩
   have k0:W4.cell? ⟨w.heap.size,0,none⟩=some (.slice a k c):=by rw[← hW4];exact gC (gX (World.cell?_setCell_same _ _ _ p0) (by omega)) (by omega)
   have k1:W4.cell? ⟨w.heap.size,1,none⟩=some (.int .i64 (n:Int)):=by rw[← hW4];exact gC (World.cell?_setCell_same _ _ _ (gX p1 (by omega))) (by omega)
   have k2:W4.cell? ⟨w.heap.size+1,0,none⟩=some (.bool true):=by rw[← hW4];exact World.cell?_setCell_same _ _ _ (gC (gC p2 (by omega)) (by omega))
   have T4:Tn (fun q=>q=w.heap.size∨q=w.heap.size+1) w2 W4:=by rw[← hW4];exact((Tn.setCell (F:=fun q=>q=w.heap.size∨q=w.heap.size+1) w2 ⟨w.heap.size,0,none⟩ _ (.inl rfl)).trans (Tn.setCell (F:=fun q=>q=w.heap.size∨q=w.heap.size+1) _ ⟨w.heap.size,1,none⟩ _ (.inl rfl))).trans (Tn.setCell (F:=fun q=>q=w.heap.size∨q=w.heap.size+1) _ ⟨w.heap.size+1,0,none⟩ _ (.inr rfl))
   have H4:=aB T4
   clear T4
   go_wp2
   refine leaves_cons (f:=283) (args:= #[.pointer (some ⟨w.heap.size,0,none⟩),.pointer (some ⟨w.heap.size+1,0,none⟩)]) (by simp) (by simp[go_sem]) ?_
   refine(good_idle _ _ _).mono ?_
   rintro e u' w'' ⟨rfl,rfl,rfl⟩
   simp[Leaves,settle,results,Tryz.results230,go_sem,k0,k1,k2]
   exact good_end HK.out.1 HK.out.2 (decide_eq_true HGN.out).symm HOW.out H2.out.2 H4.out
 · have HGN:=aB hgn
   clear hgn
   go_wp2
   refine leaves_cons (f:=283) (args:= #[.pointer (some ⟨w.heap.size,0,none⟩),.pointer (some ⟨w.heap.size+1,0,none⟩)]) (by simp) (by simp[go_sem]) ?_
   refine(good_catch _ _ _ _ _ _ _ HG.out g2 ⟨_,p0⟩ ⟨_,p1⟩ ⟨_,p2⟩ (by omega)).mono ?_
   rintro e u' w'' ⟨rfl,rfl,k0,k1,k2,T4⟩
   have H4:=aB T4
   clear T4
   simp[Leaves,settle,results,Tryz.results230,go_sem,k0,k1,k2]
   exact good_end HK.out.1 HK.out.2 (decide_eq_false HGN.out).symm HOW.out H2.out.2 H4.out
end
section
open Go.RowKit Go.Maps Go.Sort Go.Shelf
variable {F G:Nat→Prop} {w w':World} {db mb:Nat} {D D':Dk}
theorem ins_nil (fv:Value) (w:World):Calls Tryz.prog 299 #[.slice none 0 0,.int .i64 0,.int .i64 0,fv] w fun e w'=>e= .returned (.tuple #[])∧w=w':=by
 go_enter Tryz.func299,Tryz.ntmps299
 go_wp2
 refine wp_loop_rounds 1 ?_
 rw[rounds_succ]
 go_wp2
 go_end0
 exact⟨rfl,rfl⟩
set_option maxRecDepth 100000 in
theorem pdq_nil (fv:Value) (l:Int) (w:World):Calls Tryz.prog 255 #[.slice none 0 0,.int .i64 0,.int .i64 0,.int .i64 l,fv] w fun e w'=>e= .returned (.tuple #[])∧w=w':=by
 go_enter Tryz.func255,Tryz.ntmps255
 go_wp2
 refine wp_loop_rounds 1 ?_
 rw[rounds_succ]
 go_wp2_with (go_at_call 299;refine(ins_nil _ _).mono ?_;rintro e w' ⟨rfl,rfl⟩)
 (try simp only[Exit.inBlock,Exit.then]);refine bodyPost_ret (results_none rfl _ _ _) rfl ?_
 exact⟨rfl,rfl⟩
theorem sort_nil (fv:Value) (w:World):Calls Tryz.prog 172 #[.slice none 0 0,fv] w fun e w'=>e= .returned (.tuple #[])∧w=w':=by
 have hl:=fun W=>Tryz.bits_Len 0 W (by omega) (by omega)
 go_enter Tryz.func172,Tryz.ntmps172
 go_wp2_with (first
  |(go_at_call 256;refine(hl _).mono ?_;rintro e w' ⟨rfl,rfl⟩)
  |(go_at_call 255;refine(pdq_nil _ _ _).mono ?_;rintro e w' ⟨rfl,rfl⟩))
 go_end0
 exact⟨rfl,rfl⟩
def NamesE (w:World) (l:List ByteArray) (e:Ending) (w':World):Prop:=∃ v,e= .returned v∧bE eStr w' w.heap.size v l
set_option maxRecDepth 100000 in
theorem sorted_any {m:Fm} {Bm:Nat} (h:aL kW cvF w mb m) (hn:∀ p∈m,p.1.size≤64) (hl:m.length≤20000) (hB:w.cell? ⟨Bm,0,none⟩=some (.map (some mb))):
 Calls Tryz.prog 65 #[.func (.func 173) #[] #[.pointer (some ⟨Bm,0,none⟩)],.func (.func 67) #[] #[]] w fun e w'=>
  NamesE w (fJ (m.map (·.1))) e w'∧Below w.heap.size w w':=by
 have hc:=collect_any h hn hl hB
 have HL:=aB hl
 clear h hn hl hB
 go_enter Tryz.func65,Tryz.ntmps65
 go_wp2_with fail
 refine hc.mono ?_
 rintro e w1 ⟨v,ss,rfl,hp,hrow,hnil,hb⟩
 have hlen:ss.length=m.length:=by rw[hp.length_eq,List.length_map,List.length_map]
 have hpB:(ss.map toB).Perm (m.map (·.1)):=by
  have:=hp.map toB
  rw[List.map_map]at this
  have e:(toB∘fun s:ByteArray=>s.data.toList)=id:=by funext s;exact Lib.mk_data s
  rw[e,List.map_id]at this
  exact this
 have HP:=aB (aA hpB (aA hlen (aA hrow hb)))
 obtain⟨av,cv,hv,-,-⟩:=aI hrow
 by_cases hs0:ss=[]
 · have hv0:=hnil.2 hs0
   subst hs0
   subst hv0
   clear hp hrow hnil hb hlen hpB hv hc
   go_wp2_with (go_at_call 172;refine(sort_nil _ _).mono ?_;rintro e w' ⟨rfl,rfl⟩)
   go_ret
   refine⟨⟨_,rfl,?_⟩,HP.out.2.2.2⟩
   have hm0:m.map (·.1)=[]:=List.Perm.nil_eq HP.out.1 |>.symm
   rw[hm0]
   exact World.ownsRow_nil _ _ _ _
 · subst hv
   have hpos:0<ss.length:=List.length_pos_iff.2 hs0
   obtain⟨g,cap,hv⟩:∃ g cap,Value.slice av ss.length cv= .slice (some ⟨g,0,none⟩) ss.length cap:=by
    rcases hrow.2 with⟨_,h0⟩|⟨g,cap,cur,h,_⟩
    · omega
    · exact⟨g,cap,h⟩
   obtain⟨rfl,-,rfl⟩:=Value.slice.inj hv
   have hsz:ss.length≤20000:=by rw[hlen];exact HL.out
   have hsrt:=sort_any hrow hsz
   have hbase:=(hrow.lt g rfl).1
   obtain⟨sl,hsl⟩:∃ sl,ss.length=sl:=⟨_,rfl⟩
   have HSL:=aB hsl
   rw[hsl]at hsrt ⊢
   clear hp hrow hnil hb hlen hpB hv hc hpos hsz hsl
   go_wp2_with fail
   refine hsrt.mono ?_
   rintro e w2 ⟨rfl,ts,hts,hsb,hown,hgr⟩
   have hfin:=ownStr hown
   have htl:ts.length=sl:=hts.length_eq.trans HSL.out
   have hX:fJ (ss.map toB)=fJ (m.map (·.1)):=sorted_unique ((sortB_perm _).trans (HP.out.1.trans (sortB_perm _).symm)) (sortB_sorted _) (sortB_sorted _)
   rw[hsb,hX,htl]at hfin
   have HF:=aB (aA hfin (HP.out.2.2.2.grown hgr HP.out.2.2.2.size (fun j hj=>by cases hj;exact hbase)))
   clear hts hsb hown hgr hfin htl hX hsrt
   go_wp2_with fail
   go_ret
   exact⟨⟨_,rfl,HF.out.1⟩,HF.out.2⟩
def notP (p:ByteArray) (s:List UInt8):Bool:= !p.data.toList.isPrefixOf s
theorem list1_any (p:ByteArray) (s:List UInt8) {b:Nat} {w:World} (h:w.cell? ⟨b,0,none⟩=some (.string p)):FnGives Tryz.prog 69 #[.pointer (some ⟨b,0,none⟩)] #[encStr s] (.bool (notP p s)) w:=by
 show Calls Tryz.prog 69 #[.string (toB s),.pointer (some ⟨b,0,none⟩)] w _
 have hp:=Tryz.strings_HasPrefix (toB s) p
 obtain⟨q,hq⟩:∃ q,Lib.hasPrefix (toB s).data.toList p.data.toList=q:=⟨_,rfl⟩
 have hq2:notP p s= !q:=by rw[← hq];rfl
 rw[hq2]
 simp only[hq]at hp
 clear hq hq2
 go_enter Tryz.func69,Tryz.ntmps69
 go_wp2_with (go_at_call 70;refine(hp _).mono ?_;rintro e w' ⟨rfl,rfl⟩)
 go_ret
 exact⟨rfl,0,rfl⟩
theorem del_nil (fv:Value) (w:World):Calls Tryz.prog 68 #[.slice none 0 0,fv] w fun e w'=>e= .returned (.slice none 0 0)∧w=w':=by
 have hi:=fun W=>AnyE.slices_IndexFunc_empty (P:=Tryz.prog) (ρ:=Tryz.gl_delete_ren) {Tryz.gl_delete with} none 0 fv W
 change ∀ W,Calls Tryz.prog 175 _ _ _ at hi
 go_enter Tryz.func68,Tryz.ntmps68
 go_wp2_with (go_at_call 175;refine(hi _).mono ?_;rintro e w' ⟨rfl,rfl⟩)
 go_ret
 exact⟨rfl,rfl⟩
theorem delete_any {B b:Nat} {v:Value} {l:List ByteArray} (p:ByteArray) (h:bE eStr w B v l) (hl:l.length≤20000) (hB:b<B) (hp:w.cell? ⟨b,0,none⟩=some (.string p)) (hBw:B≤w.heap.size):
 Calls Tryz.prog 68 #[v,.func (.func 69) #[] #[.pointer (some ⟨b,0,none⟩)]] w fun e w'=>
  (∃ v',e= .returned v'∧bE eStr w' B v' (l.filter (fun s=>p.data.toList.isPrefixOf s.data.toList)))∧Below B w w':=by
 have h3:=ownStr' h
 obtain⟨h1,h2⟩:=h3
 rcases h2 with⟨rfl,h0⟩|⟨g,cap,cur,rfl,hg,hh,hn,hc,hcl,htk⟩
 · obtain rfl:=List.eq_nil_of_length_eq_zero h0
   refine(del_nil _ w).mono ?_
   rintro e w' ⟨rfl,rfl⟩
   exact⟨⟨_,rfl,World.ownsRow_nil _ _ _ _⟩,Below.refl _ _⟩
 · have hlt:g<w.heap.size:=(Array.getElem?_eq_some_iff.1 hh).1
   have hrow:=ownStr' h
   obtain⟨ss,hss⟩:∃ ss,l.map (·.data.toList)=ss:=⟨_,rfl⟩
   rw[hss]at htk hrow
   have hsl:l.length=ss.length:=by rw[← hss,List.length_map]
   have hH:Holds encStr w g 0 ss.toArray:=fun j hj=>by
    have hj':j<ss.length:=by simpa using hj
    refine⟨?_,by simp[World.frozen?,hh]⟩
    have e:(cur.toList.take (l.length*1))[j]?=(ss.map encStr)[j]?:=by rw[htk]
    rw[List.getElem?_take,if_pos (by omega),Array.getElem?_toList,List.getElem?_map,List.getElem?_eq_getElem hj']at e
    simp only[World.cell?,hh,Nat.zero_add,Option.isSome_none,Bool.false_eq_true,if_false]
    rw[e]
    simp[getElem!_pos,hj']
   have hbw:b<w.heap.size:=Nat.lt_of_lt_of_le hB hBw
   have hpa:PredAt Tryz.prog 69 #[.pointer (some ⟨b,0,none⟩)] encStr (notP p) w:=fun W x hb=>list1_any p x ((hb.cell (p:=⟨b,0,none⟩) hbw).trans hp)
   have hpo:PredOver Tryz.prog 69 #[.pointer (some ⟨b,0,none⟩)] encStr (notP p) g 0 ss.toArray.size w:=fun n os dk x _=>list1_any p x (by
    unfold sortWorld
    rw[cell?_grow _ _ _ (by show b<(putRow _ _ _ _ _).heap.size;rw[size_putRow];exact hbw),cell?_putRow_other _ _ g 0 _ _ (Or.inl (by omega:b≠g))]
    exact hp)
   have hcon:=AnyE.slices_DeleteFunc Tryz.gl_delete encStr (fun _=>rfl) (notP p) 69 #[.pointer (some ⟨b,0,none⟩)] (enters_of Tryz.func69 (by kernel_rfl) rfl) [] Tryz.zeroValue9 g 0 cap ss.toArray w hpa hpo hH (by simp;omega) (by simp;omega)
   rw[hsl]
   refine hcon.mono ?_
   rintro e w' ⟨rfl,q,rfl⟩
   have hf:ss.toArray.toList.filter (fun x=> !notP p x)=ss.filter (fun s=>p.data.toList.isPrefixOf s):=by
    simp[notP]
   rw[hf]
   have hfl:ss.filter (fun s=>p.data.toList.isPrefixOf s)=(l.filter (fun s=>p.data.toList.isPrefixOf s.data.toList)).map (·.data.toList):=by
    rw[← hss,List.filter_map]
    rfl
   refine⟨⟨_,rfl,?_⟩,Lib.below_putRow (Below.refl _ _) hg⟩
   have hle:(ss.filter (fun s=>p.data.toList.isPrefixOf s)).length≤ss.length:=List.length_filter_le _ _
   have ho:=Lib.ownsRow_putRow (q:=q) (k:=(ss.filter (fun s=>p.data.toList.isPrefixOf s)).length) (ys:=ss.filter (fun s=>p.data.toList.isPrefixOf s)++List.replicate (ss.toArray.size - (ss.filter (fun s=>p.data.toList.isPrefixOf s)).length) []) hrow (by simp;omega) (by omega)
   rw[List.take_append_of_le_length (Nat.le_refl _),List.take_length]at ho
   have h9:=ownStr ho
   rw[hfl,List.map_map]at h9
   have e:(toB∘fun s:ByteArray=>s.data.toList)=id:=by funext s;exact Lib.mk_data s
   rw[e,List.map_id,←hfl]at h9
   exact h9
end
section
open Go.RowKit
variable {F G:Nat→Prop} {w w':World} {db mb:Nat} {D D':Dk}
set_option maxRecDepth 100000 in
theorem list_any (h:aF F w db mb D) (hon:D.on=true) (p:ByteArray):Calls Tryz.prog 23 #[.pointer (some ⟨db,0,none⟩),.string p] w fun e w'=>NamesE w (D.list p) e w'∧Below w.heap.size w w':=by
 have hD:D.list p=D.names.filter (fun s=>p.data.toList.isPrefixOf s.data.toList):=by unfold Dk.list;rw[hon];rfl
 have c0:=h.c0
 have c1:=h.c1
 rw[hon]at c1
 have hlt:=h.ltd
 have H:=aB (aA h hD)
 have hmf:∀ (fn:Fn) (first cap:Array Value) (w:World),(Instr.makeFunc fn first cap).run Tryz.prog w= .ok (.func fn first cap) w:=fun _ _ _ _=>rfl
 clear h hD hon
 go_enter Tryz.func23,Tryz.ntmps23
 obtain⟨W1,hW1⟩:∃ W1,w.alloc (.cells #[.string p] 9)=W1:=⟨_,rfl⟩
 have b1:Below w.heap.size w W1:=by rw[← hW1];exact(Below.refl _ _).alloc (Nat.le_refl _) _
 have d1:W1.cell? ⟨w.heap.size,0,none⟩=some (.string p):=by rw[← hW1];simp[go_sem]
 have z1:W1.heap.size=w.heap.size+1:=by rw[← hW1];simp
 have k0:=(b1.cell (p:=⟨db,0,none⟩) hlt).trans c0
 have k1:=(b1.cell (p:=⟨db,1,none⟩) hlt).trans c1
 have H1:=aB (aA b1 (aA d1 z1))
 clear b1 d1 z1
 go_wp2_with (first
  |(go_at_call 60;refine(on_any k1).mono ?_;rintro e w' ⟨rfl,rfl⟩)
  |(go_at_call 66;refine(keys_any (some mb) _).mono ?_;rintro e w' ⟨rfl,rfl⟩))
 have h2:aF F (W1.alloc (.cells #[.map (some mb)] 80)) db mb D:=(H.out.1.below H1.out.1).below ((Below.refl _ _).alloc (Nat.le_refl _) _)
 refine(sorted_any h2.m h2.ok.nam h2.ok.few (Bm:=W1.heap.size) (by simp[go_sem])).mono ?_
 rintro e w3 ⟨⟨v,rfl,hown⟩,hb3⟩
 have hbx:Below W1.heap.size W1 w3:=((Below.refl _ _).alloc (Nat.le_refl _) _).trans (hb3.mono (by simp))
 have hcell:w3.cell? ⟨w.heap.size,0,none⟩=some (.string p):=(hbx.cell (p:=⟨w.heap.size,0,none⟩) (by rw[H1.out.2.2];simp)).trans H1.out.2.1
 obtain⟨av,cv,hv,-,-⟩:=aI hown
 have hown2:bE eStr w3 (w.heap.size+1) v (fJ (D.m.map (·.1))):=aK hown (by have:=H1.out.2.2;simp;omega)
 have H3:=aB (aA hown2 (aA hcell hbx))
 have hlen:(fJ (D.m.map (·.1))).length≤20000:=by rw[(sortB_perm _).length_eq,List.length_map];exact h2.ok.few
 have HL:=aB hlen
 subst hv
 clear h2 hown hb3 hbx hcell hown2 hlen
 go_wp2_with fail
 refine(delete_any p H3.out.1 HL.out (b:=w.heap.size) (by omega) H3.out.2.1 (by have:=H3.out.2.2.size;have:=H1.out.2.2;omega)).mono ?_
 rintro e w4 ⟨⟨v',rfl,hown4⟩,hb4⟩
 obtain⟨fl,hfl⟩:∃ fl,(fJ (D.m.map (·.1))).filter (fun s=>p.data.toList.isPrefixOf s.data.toList)=fl:=⟨_,rfl⟩
 rw[hfl]at hown4
 have HFL:=aB hfl
 have H4:=aB (aA hown4 hb4)
 clear hfl
 obtain⟨av4,cv4,hv4,-,-⟩:=aI hown4
 subst hv4
 clear hown4 hb4
 go_wp2_with fail
 go_ret
 refine⟨⟨_,rfl,?_⟩,(H1.out.1.trans (H3.out.2.2.mono H1.out.1.size)).trans (H4.out.2.mono (Nat.le_succ w.heap.size))⟩
 have e9:D.list p=fl:=H.out.2.trans HFL.out
 rw[e9]
 exact aK H4.out.1 (Nat.le_succ w.heap.size)
theorem jH {cuts:List Int} {flip:Int}:∀ (l:List ByteArray) (i:Nat) (m:Fm),(bV cuts flip l i m).map (·.1)=m.map (·.1)
 |[],_,_=>rfl
 |a::l,i,m=>by
  unfold bV
  cases hg:aH m a with
  |none=>exact jH l (i+1) m
  |some f=>
   simp only
   rw[jH l (i+1)]
   unfold aG
   have hany:m.any (fun p=>decide (p.1=a))=true:=List.any_eq_true.2 ⟨_,cG hg,by simp⟩
   rw[hany,if_pos rfl,List.map_map]
   refine List.map_congr_left (fun p _=>?_)
   simp only[Function.comp]
   split
   · rename_i h;exact h.symm
   · rfl
theorem eV {cuts:List Int} {flip:Int}:∀ (l:List ByteArray) (a:ByteArray) (i:Nat) (m:Fm),bV cuts flip (l++[a]) i m=(match aH (bV cuts flip l i m) a with|some f=>aG (bV cuts flip l i m) a (bJ f (cutAt cuts (i+l.length)) flip)|none=>bV cuts flip l i m)
 |[],a,i,m=>by
  simp only[List.nil_append,bV,List.length_nil,Nat.add_zero]
  cases aH m a<;>rfl
 |b::l,a,i,m=>by
  simp only[List.cons_append,bV,List.length_cons]
  have h:=fun m=>eV (cuts:=cuts) (flip:=flip) l a (i+1) m
  cases aH m b with
  |none=>simp only;rw[h,show i+1+l.length=i+(l.length+1) by omega]
  |some f=>simp only;rw[h,show i+1+l.length=i+(l.length+1) by omega]
theorem getL_some {m:Fm} {a:ByteArray} (h:a∈m.map (·.1)):∃ f,aH m a=some f:=by
 obtain⟨p,hp,rfl⟩:=List.mem_map.1 h
 unfold aH
 cases hf:m.find? (fun q=>decide (q.1=p.1))with
 |none=>exact absurd (by simp:decide (p.1=p.1)=true) (by simpa using List.find?_eq_none.1 hf p hp)
 |some q=>exact⟨q.2,rfl⟩
end
end Go.Proofs.YtpfibkgmfapnjaaGreatDoor
