/- Manifest: numbers and texts laid; what an edit laid says, plain. -/
import Derived.Test.YtpfibkgmfapnjaaGreatDoorS28
import Derived.Test.YtpfibkgmfapnjaaGreatDoorS29
import Derived.Test.YtpfibkgmfapnjaaGreatDoorS4
set_option linter.unusedSimpArgs false
set_option linter.unusedVariables false
namespace Go.Proofs.YtpfibkgmfapnjaaGreatDoor
section
open Go.RowKit
variable {w w':World}
def aS (v:Int):List UInt8:=Rw.putF v.toNat
theorem aR (v:Int):1≤(aS v).length∧(aS v).length≤9:=Rw.putK_len 8 _
def dY (s:ByteArray):List UInt8:=aS s.size++s.data.toList
theorem ba_len (s:ByteArray):s.data.toList.length=s.size:=rfl
theorem eY (s:ByteArray):(dY s).length≤9+s.size:=by
 unfold dY
 rw[List.length_append,ba_len]
 have:=(aR (s.size:Int)).2
 omega
def fiL (f:Fi):List UInt8:=aS f.lv++aS f.nu++aS f.ct++aS f.sz++dY f.f++dY f.l
def ntL (p:KV):List UInt8:=dY p.1++dY p.2
def flL (l:List Int):List UInt8:=if l=[]then[]else fG l
def eE (e:PE):List UInt8:=aS e.add.length++e.add.flatMap fiL++aS e.rem.length++e.rem.flatMap aS++(aS e.log++(aS (flL e.fl).length++flL e.fl)++aS e.ns.length)++e.ns.flatMap ntL
structure LaidOk (e:PE):Prop where
 add:∀ f∈e.add,bB f=true
 addn:e.add.length≤100000
 rem:∀ n∈e.rem,0≤n∧n≤2147483647
 remn:e.rem.length≤100000
 log:0≤e.log∧e.log≤4294967295
 fl:e.fl=[]∨iS e.fl=true
 ns:∀ p∈e.ns,p.1.size≤500∧p.2.size≤20000
 nsn:e.ns.length≤100000
theorem fZ {α:Type} {f:α→List UInt8} {K:Nat}:∀ (l:List α),(∀ x∈l,(f x).length≤K)→(l.flatMap f).length≤K*l.length
 |[],_=>by simp
 |x::l,h=>by
  have h1:=h x (by simp)
  have h2:=fZ l (fun y hy=>h y (List.mem_cons_of_mem _ hy))
  rw[List.flatMap_cons,List.length_append,List.length_cons,Nat.mul_add]
  omega
theorem gI {x:Fi} (h:bB x=true):(0≤x.lv∧x.lv≤6)∧(1≤x.nu∧x.nu≤2147483647)∧(1≤x.ct∧x.ct≤2147483647)∧(0≤x.sz∧x.sz≤2147483647)∧x.f.size≤500∧x.l.size≤500:=by
 unfold bB inI at h
 simp only[Bool.and_eq_true,decide_eq_true_eq]at h
 obtain⟨⟨⟨⟨⟨⟨h1,h2⟩,h3⟩,h4⟩,h5⟩,h6⟩,h7⟩:=h
 omega
theorem fiL_len {x:Fi} (h:bB x=true):(fiL x).length≤1100:=by
 have:=gI h
 unfold fiL
 simp only[List.length_append]
 have h1:=(aR x.lv).2
 have h2:=(aR x.nu).2
 have h3:=(aR x.ct).2
 have h4:=(aR x.sz).2
 have h5:=eY x.f
 have h6:=eY x.l
 omega
theorem flL_len {l:List Int} (h:l=[]∨iS l=true):(flL l).length≤49:=by
 unfold flL
 split
 · simp
 · exact encV_len ((hZ l).symm.trans (h.resolve_left (by assumption)))
theorem flat_take {α:Type} {f:α→List UInt8} {l:List α} {i:Nat} (h:i<l.length):(l.take (i+1)).flatMap f=(l.take i).flatMap f++f l[i]:=by
 rw[List.take_succ_eq_append_getElem h,List.flatMap_append]
 simp
theorem mnum_any (v:Int) (w:World) (h0:0≤v) (h1:v<9223372036854775808):Calls Tryz.prog 45 #[.int .i64 v] w fun e w'=>e= .returned (.string ⟨(aS v).toArray⟩)∧Below w.heap.size w w':=by
 obtain⟨n,rfl⟩:=Int.eq_ofNat_of_zero_le h0
 have hp:=putvar_any n w (by omega)
 have HP:=aB hp
 clear hp
 go_enter Tryz.func45,Tryz.ntmps45
 go_wp2_with (go_at_call 151;refine HP.out.mono ?_;rintro e w2 ⟨rfl,hb⟩;have H2:=aB hb;clear hb)
 go_ret
 exact⟨rfl,H2.out⟩
theorem arr_app (a:List UInt8) (s:ByteArray):(⟨a.toArray⟩:ByteArray)++s=⟨(a++s.data.toList).toArray⟩:=by
 apply ByteArray.ext
 simp
theorem mtext_any (s:ByteArray) (hs:s.size≤140737488351232) (w:World):Calls Tryz.prog 153 #[.string s] w fun e w'=>e= .returned (.string ⟨(dY s).toArray⟩)∧Below w.heap.size w w':=by
 have hp:=mnum_any (s.size:Int) w (by omega) (by omega)
 obtain⟨a,ha⟩:∃ a:ByteArray,(⟨(aS s.size).toArray⟩:ByteArray)=a:=⟨_,rfl⟩
 have hsz:a.size≤9:=by rw[← ha,bQ];exact(aR _).2
 rw[ha]at hp
 have b1:¬ 9223372036854775807<a.size+s.size:=by omega
 have HP:=aB (aA hp ha)
 clear hp ha hsz
 go_enter Tryz.func153,Tryz.ntmps153
 go_wp2_with (go_at_call 45;refine HP.out.1.mono ?_;rintro e w2 ⟨rfl,hb⟩;have H2:=aB hb;clear hb)
 go_ret
 refine⟨?_,H2.out⟩
 rw[← HP.out.2,arr_app]
 rfl
set_option maxHeartbeats 1000000 in
theorem putvec_no {x:Value} (h:RdI w x []):Calls Tryz.prog 154 #[x] w fun e w'=>e= .returned (.tuple #[.string ⟨#[]⟩,.int .i64 1])∧w=w':=by
 have hV:=valid_any h
 rw[show bK []=false by decide]at hV
 obtain⟨a,c,rfl,hc⟩:=h
 clear hc
 go_enter Tryz.func154,Tryz.ntmps154
 go_wp2_with (go_at_call 207;refine hV.mono ?_;rintro e v1 ⟨rfl,rfl⟩)
 go_ret2
 exact⟨rfl,rfl⟩
theorem putfl_any {x:Value} {l:List Int} (h:RdI w x l) (hl:l=[]∨iS l=true):Calls Tryz.prog 154 #[x] w fun e w'=>(∃ c,e= .returned (.tuple #[.string ⟨(flL l).toArray⟩,.int .i64 c]))∧Below w.heap.size w w':=by
 rcases hl with rfl|hl
 · refine(putvec_no h).mono ?_
   rintro e w' ⟨rfl,rfl⟩
   exact⟨⟨1,rfl⟩,Below.refl _ _⟩
 · refine(putvec_any h ((hZ l).symm.trans hl)).mono ?_
   rintro e w' ⟨rfl,hb⟩
   refine⟨⟨0,?_⟩,hb⟩
   unfold flL
   rw[if_neg (fun e=>by rw[e]at hl;simp[iS]at hl)]
end
section
open Go.RowKit
variable {w w':World}
def Ld (w wr:World) (u0 u1 u2 u3 u4:Value) (X:List UInt8):Prop:=Lb w wr u0 u1 u2 u3 u4∧hU (w.heap.size+1) (w.heap.size+1) (Lib.byteCells X) wr∧w.heap.size+2≤wr.heap.size
theorem Lb.belowB {wr wr':World} {u0 u1 u2 u3 u4:Value} (h:Lb w wr u0 u1 u2 u3 u4) (hb:Below (w.heap.size+1) wr wr'):Lb w wr' u0 u1 u2 u3 u4:=
 ⟨(hb.cell (p:=⟨w.heap.size,0,none⟩) (Nat.lt_succ_self _)).trans h.a0,(hb.cell (p:=⟨w.heap.size,1,none⟩) (Nat.lt_succ_self _)).trans h.a1,(hb.cell (p:=⟨w.heap.size,2,none⟩) (Nat.lt_succ_self _)).trans h.a2,(hb.cell (p:=⟨w.heap.size,3,none⟩) (Nat.lt_succ_self _)).trans h.a3,(hb.cell (p:=⟨w.heap.size,4,none⟩) (Nat.lt_succ_self _)).trans h.a4,
  h.bel.trans (hb.mono (by omega)),Nat.le_trans h.sz hb.size⟩
theorem Ld.below {wr wr':World} {u0 u1 u2 u3 u4:Value} {X:List UInt8} (h:Ld w wr u0 u1 u2 u3 u4 X) (hb:Below wr.heap.size wr wr'):Ld w wr' u0 u1 u2 u3 u4 X:=
 ⟨h.1.below hb,bld_below h.2.1 hb,Nat.le_trans h.2.2 hb.size⟩
theorem str_cells2 (s:ByteArray):Lib.strCells s=Lib.byteCells s.data.toList:=str_cells s.data.toList
theorem gM {wr:World} {u0 u1 u2 u3 u4:Value} {X:List UInt8} (h:Ld w wr u0 u1 u2 u3 u4 X) (s:ByteArray) (hl:X.length+s.size≤140737488355328):
 Calls Tryz.prog 152 #[.pointer (some ⟨w.heap.size+1,0,none⟩),.string s] wr fun e w'=>e= .returned (.tuple #[.int .i64 s.size,.nilIface])∧Ld w w' u0 u1 u2 u3 u4 (X++s.data.toList):=by
 refine(bld_text h.2.1 s (by rw[Lib.byteCells_length];exact hl) (by have:=h.2.2;omega)).mono ?_
 rintro e w' ⟨h1,h2,h3⟩
 rw[str_cells2,←byte_app]at h2
 exact⟨h1,h.1.belowB h3,h2,Nat.le_trans h.2.2 h3.size⟩
structure FiB (w:World) (b:Nat) (u:Fi):Prop where
 c0:w.cell? ⟨b,0,none⟩=some (.int .i64 u.lv)
 c1:w.cell? ⟨b,1,none⟩=some (.int .i64 u.nu)
 c2:w.cell? ⟨b,2,none⟩=some (.int .i64 u.ct)
 c3:w.cell? ⟨b,3,none⟩=some (.int .i64 u.sz)
 c4:w.cell? ⟨b,4,none⟩=some (.string u.f)
 c5:w.cell? ⟨b,5,none⟩=some (.string u.l)
theorem FiB.lt {b:Nat} {u:Fi} (h:FiB w b u):b<w.heap.size:=World.block_lt_of_cell? _ _ h.c0
theorem FiB.below {b:Nat} {u:Fi} (h:FiB w b u) (hb:Below w.heap.size w w'):FiB w' b u:=
 ⟨(hb.cell (p:=⟨b,0,none⟩) h.lt).trans h.c0,(hb.cell (p:=⟨b,1,none⟩) h.lt).trans h.c1,(hb.cell (p:=⟨b,2,none⟩) h.lt).trans h.c2,(hb.cell (p:=⟨b,3,none⟩) h.lt).trans h.c3,(hb.cell (p:=⟨b,4,none⟩) h.lt).trans h.c4,(hb.cell (p:=⟨b,5,none⟩) h.lt).trans h.c5⟩
theorem FiB.and {b:Nat} {u:Fi} (h:FiB w b u):w.cell? ⟨b,0,none⟩=some (.int .i64 u.lv)∧w.cell? ⟨b,1,none⟩=some (.int .i64 u.nu)∧w.cell? ⟨b,2,none⟩=some (.int .i64 u.ct)∧w.cell? ⟨b,3,none⟩=some (.int .i64 u.sz)∧w.cell? ⟨b,4,none⟩=some (.string u.f)∧w.cell? ⟨b,5,none⟩=some (.string u.l):=⟨h.c0,h.c1,h.c2,h.c3,h.c4,h.c5⟩
theorem FiB.made (w:World) (u:Fi):FiB (w.alloc (.cells #[.int .i64 u.lv,.int .i64 u.nu,.int .i64 u.ct,.int .i64 u.sz,.string u.f,.string u.l] 79)) w.heap.size u:=by
 refine⟨?_,?_,?_,?_,?_,?_⟩
 all_goals simp[go_sem]
def Tx (s:ByteArray) (l:List UInt8):Prop:=s=⟨l.toArray⟩
theorem Tx.add {a b:ByteArray} {l m:List UInt8} (h:Tx a l) (k:Tx b m):Tx (a++b) (l++m):=by rw[h,k];exact str_add l m
theorem Tx.list {a:ByteArray} {l:List UInt8} (h:Tx a l):a.data.toList=l:=by rw[h]
theorem Tx.size {a:ByteArray} {l:List UInt8} (h:Tx a l):a.size=l.length:=by rw[h];exact bQ l
theorem fH (v:Int) (w:World) (h0:0≤v) (h1:v<9223372036854775808):∃ s,Tx s (aS v)∧s.size≤9∧∀ w,Calls Tryz.prog 45 #[.int .i64 v] w fun e w'=>e= .returned (.string s)∧Below w.heap.size w w':=
 ⟨_,rfl,by rw[bQ];exact(aR v).2,fun w=>mnum_any v w h0 h1⟩
theorem lC (s:ByteArray) (hs:s.size≤100000):∃ t,Tx t (dY s)∧t.size≤9+s.size∧∀ w,Calls Tryz.prog 153 #[.string s] w fun e w'=>e= .returned (.string t)∧Below w.heap.size w w':=
 ⟨_,rfl,by rw[bQ];exact eY s,fun w=>mtext_any s (by omega) w⟩
set_option maxRecDepth 100000 in
set_option maxHeartbeats 8000000 in
theorem laid_any {w:World} {ev:Value} {e:PE} (he:EdV w ev e) (ok:LaidOk e):Calls Tryz.prog 46 #[ev] w fun r w'=>r= .returned (.string ⟨(eE e).toArray⟩)∧Below w.heap.size w w':=by
 obtain⟨xv,yv,mv,ov,rfl,he1,he2,he3,he4⟩:=he
 obtain⟨xa,xc,rfl,_,_⟩:=he1.form
 obtain⟨ya,yc,rfl,_,_⟩:=he2.form
 obtain⟨ma,mc,rfl,_,_⟩:=he3.form
 obtain⟨oa,oc,rfl,_,_⟩:=he4.form
 obtain⟨xn,hxn⟩:∃ n,e.add.length=n:=⟨_,rfl⟩
 obtain⟨yn,hyn⟩:∃ n,e.rem.length=n:=⟨_,rfl⟩
 obtain⟨mn,hmn⟩:∃ n,e.fl.length=n:=⟨_,rfl⟩
 obtain⟨on,hon⟩:∃ n,e.ns.length=n:=⟨_,rfl⟩
 rw[hxn]at he1 ⊢
 rw[hyn]at he2 ⊢
 rw[hmn]at he3 ⊢
 rw[hon]at he4 ⊢
 have hxn2:xn≤100000:=hxn▸ok.addn
 have hyn2:yn≤100000:=hyn▸ok.remn
 have hon2:on≤100000:=hon▸ok.nsn
 obtain⟨sx,tx,zx,cx⟩:=fH (xn:Int) w (by omega) (by omega)
 obtain⟨sy,ty,zy,cy⟩:=fH (yn:Int) w (by omega) (by omega)
 obtain⟨so,to_,zo,co⟩:=fH (on:Int) w (by omega) (by omega)
 obtain⟨sg,tg,zg,cg⟩:=fH e.log w ok.log.1 (by have:=ok.log.2;omega)
 obtain⟨sf,tf⟩:∃ s,Tx s (flL e.fl):=⟨_,rfl⟩
 have zf:sf.size≤49:=by rw[tf.size];exact flL_len ok.fl
 obtain⟨sh,th,zh,ch⟩:=lC sf (by omega)
 have cf:∀ w',Below w.heap.size w w'→Calls Tryz.prog 154 #[.slice ma mn mc] w' fun r w''=>(∃ c,r= .returned (.tuple #[.string sf,.int .i64 c]))∧Below w'.heap.size w' w'':=fun w' hb=>by
  rw[tf]
  exact putfl_any (jS (he3.below hb)) ok.fl
 have HC:=aB (aA cx (aA cy (aA co (aA cg (aA ch cf)))))
 have HT:=aB (aA tx (aA ty (aA to_ (aA tg (aA tf th)))))
 have HX:=aB (aA he1 hxn)
 have HY:=aB (aA he2 hyn)
 have HO:=aB (aA he4 hon)
 have HOK:=aB ok
 clear he1 he2 he3 he4 ok hxn hyn hmn hon cx cy co cg ch cf tx ty to_ tg tf th
 obtain⟨w1,hw1⟩:∃ w1,w.alloc (.cells #[.slice xa xn xc,.slice ya yn yc,.int .i64 e.log,.slice ma mn mc,.slice oa on oc] 56)=w1:=⟨_,rfl⟩
 obtain⟨w2,hw2⟩:∃ w2,w1.alloc (.cells #[.pointer none,.slice none 0 0] 174)=w2:=⟨_,rfl⟩
 have hz1:w1.heap.size=w.heap.size+1:=by rw[← hw1];simp
 have hz2:w2.heap.size=w.heap.size+2:=by rw[← hw2,←hw1];simp
 have h1:Lb w w1 (.slice xa xn xc) (.slice ya yn yc) (.int .i64 e.log) (.slice ma mn mc) (.slice oa on oc):=by
  rw[← hw1]
  refine⟨?_,?_,?_,?_,?_,(Below.refl _ _).alloc (Nat.le_refl _) _,by simp⟩
  all_goals simp[go_sem]
 have hb2:hU (w.heap.size+1) (w.heap.size+1) (Lib.byteCells []) w2:=by rw[← hw2,←hz1];exact Lib.fresh_isBuilder _ _ w1
 have h2:Ld w w2 (.slice xa xn xc) (.slice ya yn yc) (.int .i64 e.log) (.slice ma mn mc) (.slice oa on oc) []:=⟨h1.below (by rw[← hw2];exact(Below.refl _ _).alloc (Nat.le_refl _) _),hb2,by omega⟩
 have H2:=aB h2
 have a0:=h2.1.a0
 clear h1 hb2 h2 hz2
 go_enter Tryz.func46,Tryz.ntmps46
 go_wp2_with (first
  |(go_at_call 152;go_loud (refine(gM H3.out sx (by simp;omega)).mono ?_);rintro r w4 ⟨rfl,h4⟩;rw[HT.out.1.list]at h4;have H4:=aB h4;have b0:=h4.1.a0;clear h4)
  |(go_at_call 45;go_loud (refine(HC.out.1 _).mono ?_);rintro r w3 ⟨rfl,hb3⟩;have H3:=aB (H2.out.below hb3);clear hb3))
 clear a0 b0 hw1 hw2
 go_loopw [20] (fun y wr=>∃ i:Nat,i≤xn∧y= .int .i64 (i:Int)∧Ld w wr (.slice xa xn xc) (.slice ya yn yc) (.int .i64 e.log) (.slice ma mn mc) (.slice oa on oc) (aS (xn:Int)++(e.add.take i).flatMap fiL)) (fun y _=>xn - (intOf y).toNat)
 case atStart=>exact⟨0,by omega,rfl,by simpa using H4.out⟩
 case round=>
  obtain⟨i,hi,rfl,hld⟩:=hrel
  have HL:=aB hld
  by_cases hlt:i<xn
  · have hil:i<e.add.length:=by rw[HX.out.2];exact hlt
    obtain⟨b,off,rfl,hbl,c0,c1,c2,c3,c4,c5⟩:=eD (HX.out.1.below hld.1.bel) hil
    have hv:=HOK.out.add _ (List.getElem_mem hil)
    have htk:=flat_take (f:=fiL) hil
    have hlen:((e.add.take i).flatMap fiL).length≤1100*100000:=by
     refine Nat.le_trans (fZ (K:=1100) _ (fun x hx=>fiL_len (HOK.out.add x (List.mem_of_mem_take hx)))) ?_
     rw[List.length_take]
     exact Nat.mul_le_mul_left _ (by omega)
    obtain⟨u,hu⟩:∃ u,e.add[i]=u:=⟨_,rfl⟩
    rw[hu]at c0 c1 c2 c3 c4 c5 hv htk
    have hva:=gI hv
    obtain⟨n0,p0,q0,d0⟩:=fH u.lv w hva.1.1 (by omega)
    obtain⟨n1,p1,q1,d1⟩:=fH u.nu w (by omega) (by omega)
    obtain⟨n2,p2,q2,d2⟩:=fH u.ct w (by omega) (by omega)
    obtain⟨n3,p3,q3,d3⟩:=fH u.sz w (by omega) (by omega)
    obtain⟨n4,p4,q4,d4⟩:=lC u.f (by omega)
    obtain⟨n5,p5,q5,d5⟩:=lC u.l (by omega)
    have hnl:=(aR (xn:Int)).2
    have hall:Tx (n0++n1++n2++n3++n4++n5) (fiL u):=((((p0.add p1).add p2).add p3).add p4).add p5
    have b1:¬ 9223372036854775807<n0.size+n1.size:=by omega
    have b2:¬ 9223372036854775807<n0.size+n1.size+n2.size:=by omega
    have b3:¬ 9223372036854775807<n0.size+n1.size+n2.size+n3.size:=by omega
    have b4:¬ 9223372036854775807<n0.size+n1.size+n2.size+n3.size+n4.size:=by omega
    have b5:¬ 9223372036854775807<n0.size+n1.size+n2.size+n3.size+n4.size+n5.size:=by omega
    have b2':¬ 9223372036854775807<(n0++n1).size+n2.size:=by rw[ByteArray.size_append];omega
    have b3':¬ 9223372036854775807<(n0++n1++n2).size+n3.size:=by simp only[ByteArray.size_append];omega
    have b4':¬ 9223372036854775807<(n0++n1++n2++n3).size+n4.size:=by simp only[ByteArray.size_append];omega
    have b5':¬ 9223372036854775807<(n0++n1++n2++n3++n4).size+n5.size:=by simp only[ByteArray.size_append];omega
    have hall2:(n0++n1++n2++n3++n4++n5).size≤2000:=by simp only[ByteArray.size_append];omega
    obtain⟨w5,hw5⟩:∃ w5,wr.alloc (.cells #[.int .i64 u.lv,.int .i64 u.nu,.int .i64 u.ct,.int .i64 u.sz,.string u.f,.string u.l] 79)=w5:=⟨_,rfl⟩
    have hb5:Below wr.heap.size wr w5:=by rw[← hw5];exact(Below.refl _ _).alloc (Nat.le_refl _) _
    have hf5:FiB w5 wr.heap.size u:=by rw[← hw5];exact FiB.made wr u
    obtain⟨ub,hub⟩:∃ ub,wr.heap.size=ub:=⟨_,rfl⟩
    rw[hub]at hf5
    have H5:=aB (aA (hld.below hb5) hf5)
    have HD:=aB (aA d0 (aA d1 (aA d2 (aA d3 (aA d4 d5)))))
    have HN:=aB (aA hall (aA hall2 (aA htk hlen)))
    have z0:(i:Int)<(xn:Int):=by omega
    have z1:(0:Int)≤(i:Int):=by omega
    clear hld hb5 hf5 d0 d1 d2 d3 d4 d5 p0 p1 p2 p3 p4 p5 q0 q1 q2 q3 q4 q5 hall hall2 htk hlen hv hva hu hnl
    go_wp2
    refine dQ (fun w'=>w'.cell? ⟨ub,0,none⟩=some (.int .i64 u.lv)∧w'.cell? ⟨ub,1,none⟩=some (.int .i64 u.nu)∧w'.cell? ⟨ub,2,none⟩=some (.int .i64 u.ct)∧w'.cell? ⟨ub,3,none⟩=some (.int .i64 u.sz)∧w'.cell? ⟨ub,4,none⟩=some (.string u.f)∧w'.cell? ⟨ub,5,none⟩=some (.string u.l)) 23 24 (H5.out.2.below (Below.refl _ _).drew).and (fun hH=>?_)
    have H6:=aB (aA (H5.out.1.below (Below.refl _ _).drew) (H5.out.2.below (Below.refl _ _).drew))
    refine bU [[0,1,2,5,9,13,17,21],[1,2,5,9,13,17,21],[3,4,5,9,13,17,21],[4,5,9,13,17,21],[7,8,9,13,17,21],[8,9,13,17,21],[11,12,13,17,21],[12,13,17,21],[15,16,17,21],[16,17,21],[19,20,21],[20,21]] hH ?_
    refine bM (i:=2) rfl (fun K hK=>?_)
    go_simp
    go_at_call 45
    refine(HD.out.1 _).mono ?_
    rintro r y7 ⟨rfl,hb⟩
    have H7:=aB (aA (H6.out.1.below hb) (H6.out.2.below hb))
    clear hb
    refine bH hK H7.out.2.and ?_
    clear hK K
    intro hH
    refine bM (i:=5) rfl (fun K hK=>?_)
    go_simp
    go_at_call 45
    refine(HD.out.2.1 _).mono ?_
    rintro r y8 ⟨rfl,hb⟩
    have H8:=aB (aA (H7.out.1.below hb) (H7.out.2.below hb))
    clear hb
    refine bH hK H8.out.2.and ?_
    clear hK K
    intro hH
    refine bU [[6,10,14,18,22]] hH ?_
    refine bM (i:=9) rfl (fun K hK=>?_)
    go_simp
    go_at_call 45
    refine(HD.out.2.2.1 _).mono ?_
    rintro r y9 ⟨rfl,hb⟩
    have H9:=aB (aA (H8.out.1.below hb) (H8.out.2.below hb))
    clear hb
    refine bH hK H9.out.2.and ?_
    clear hK K
    intro hH
    refine bU [[10,14,18,22]] hH ?_
    refine bM (i:=13) rfl (fun K hK=>?_)
    go_simp
    go_at_call 45
    refine(HD.out.2.2.2.1 _).mono ?_
    rintro r y10 ⟨rfl,hb⟩
    have H10:=aB (aA (H9.out.1.below hb) (H9.out.2.below hb))
    clear hb
    refine bH hK H10.out.2.and ?_
    clear hK K
    intro hH
    refine bU [[14,18,22]] hH ?_
    refine bM (i:=17) rfl (fun K hK=>?_)
    go_simp
    go_at_call 153
    refine(HD.out.2.2.2.2.1 _).mono ?_
    rintro r y11 ⟨rfl,hb⟩
    have H11:=aB (aA (H10.out.1.below hb) (H10.out.2.below hb))
    clear hb
    refine bH hK H11.out.2.and ?_
    clear hK K
    intro hH
    refine bU [[18,22]] hH ?_
    refine bM (i:=21) rfl (fun K hK=>?_)
    go_simp
    go_at_call 153
    refine(HD.out.2.2.2.2.2 _).mono ?_
    rintro r y12 ⟨rfl,hb⟩
    have H12:=aB (aA (H11.out.1.below hb) (H11.out.2.below hb))
    clear hb
    refine bH hK H12.out.2.and ?_
    clear hK K
    intro hH
    refine bU [[22]] hH ?_
    refine tkL rfl (fun K hK=>?_)
    go_simp
    go_at_call 152
    refine(gM H12.out.1 _ (by have:=HN.out.2.1;have:=HN.out.2.2.2;have:=(aR (xn:Int)).2;rw[List.length_append];omega)).mono ?_
    rintro r w9 ⟨rfl,h9⟩
    rw[HN.out.1.list,List.append_assoc,←HN.out.2.2.1]at h9
    have H9:=aB h9
    clear h9
    refine hK.out _ _ (tkD ?_)
    clear hK K hH
    go_wp2
    go_roundw
    case rel=>exact⟨i+1,by omega,by go_num,H9.out⟩
    case measure=>simp[intOf];omega
  · have hix:i=xn:=by omega
    have z0:¬ (i:Int)<(xn:Int):=by omega
    have hfull:e.add.take i=e.add:=by rw[hix,←HX.out.2];exact List.take_length
    rw[hfull]at HL
    obtain⟨A1,hA1⟩:∃ A,aS (xn:Int)++e.add.flatMap fiL=A:=⟨_,rfl⟩
    have hl1:A1.length≤110000009:=by
     rw[← hA1,List.length_append]
     have h9:=fZ (f:=fiL) (K:=1100) e.add (fun x hx=>fiL_len (HOK.out.add x hx))
     have:=(aR (xn:Int)).2
     rw[HX.out.2]at h9
     omega
    rw[hA1]at HL
    have HA:=aB hA1
    have a1:=HL.out.1.a1
    clear hld hA1 hfull
    go_wp2_with (first
     |(go_at_call 152;go_loud (refine(gM H6.out sy (by omega)).mono ?_);rintro r w7 ⟨rfl,h7⟩;rw[HT.out.2.1.list]at h7;have H7:=aB h7;have b1:=h7.1.a1;clear h7)
     |(go_at_call 45;go_loud (refine(HC.out.2.1 _).mono ?_);rintro r w6 ⟨rfl,hb6⟩;have H6:=aB (HL.out.below hb6);clear hb6))
    clear a1 b1
    go_loopw [7,57] (fun _ y wr=>∃ j:Nat,j≤yn∧y= .int .i64 (j:Int)∧Ld w wr (.slice xa xn xc) (.slice ya yn yc) (.int .i64 e.log) (.slice ma mn mc) (.slice oa on oc) ((A1++aS (yn:Int))++(e.rem.take j).flatMap aS)) (fun _ y _=>yn - (intOf y).toNat)
    case atStart=>exact⟨0,by omega,rfl,by simpa using H7.out⟩
    case round=>
     obtain⟨j,hj,rfl,hld⟩:=hrel
     have HK:=aB hld
     by_cases hlj:j<yn
     · have hjl:j<e.rem.length:=by rw[HY.out.2];exact hlj
       obtain⟨b,off,rfl,hbl,c0⟩:=rdz_at (HY.out.1.below hld.1.bel) hjl
       have hv:=HOK.out.rem _ (List.getElem_mem hjl)
       have htk:=flat_take (f:=aS) hjl
       have hlen:((e.rem.take j).flatMap aS).length≤9*100000:=by
        refine Nat.le_trans (fZ (K:=9) _ (fun x _=>(aR x).2)) ?_
        rw[List.length_take]
        exact Nat.mul_le_mul_left _ (by omega)
       obtain⟨u,hu⟩:∃ u,e.rem[j]=u:=⟨_,rfl⟩
       rw[hu]at c0 hv htk
       obtain⟨n0,p0,q0,d0⟩:=fH u w (by omega) (by omega)
       have HD:=aB (aA d0 (aA p0 (aA q0 (aA htk hlen))))
       have y0:(j:Int)<(yn:Int):=by omega
       have y1:(0:Int)≤(j:Int):=by omega
       clear hld d0 p0 q0 htk hlen hv hu
       go_wp2_with (first
        |(go_at_call 152;go_loud (refine(gM H8.out n0 (by have:=HD.out.2.2.1;have:=HD.out.2.2.2.2;have:=(aR (yn:Int)).2;rw[List.length_append,List.length_append];omega)).mono ?_);rintro r w9 ⟨rfl,h9⟩;rw[HD.out.2.1.list,List.append_assoc,←HD.out.2.2.2.1]at h9;have H9:=aB h9;clear h9)
        |(go_at_call 45;go_loud (refine(HD.out.1 _).mono ?_);rintro r w8 ⟨rfl,hb8⟩;have H8:=aB (HK.out.below hb8);clear hb8))
       go_roundw
       case rel=>exact⟨j+1,by omega,by go_num,H9.out⟩
       case measure=>simp[intOf];omega
     · have hjx:j=yn:=by omega
       have y0:¬ (j:Int)<(yn:Int):=by omega
       have hfull:e.rem.take j=e.rem:=by rw[hjx,←HY.out.2];exact List.take_length
       rw[hfull]at HK
       obtain⟨A2,hA2⟩:∃ A,A1++aS (yn:Int)++e.rem.flatMap aS=A:=⟨_,rfl⟩
       have hl2:A2.length≤120000009:=by
        rw[← hA2,List.length_append,List.length_append]
        have h9:=fZ (f:=aS) (K:=9) e.rem (fun x hx=>(aR x).2)
        have:=(aR (yn:Int)).2
        rw[HY.out.2]at h9
        omega
       rw[hA2]at HK
       have HA2:=aB hA2
       have a3:=HK.out.1.a3
       clear hld hA2 hfull
       go_wp2_with (go_at_call 154;go_loud (refine(HC.out.2.2.2.2.2 _ HK.out.1.bel).mono ?_);rintro r w8 ⟨⟨pc,rfl⟩,hb8⟩;have H8:=aB (HK.out.below hb8);clear hb8)
       clear a3
       have s1:¬ 9223372036854775807<sg.size+sh.size:=by omega
       have s2:¬ 9223372036854775807<(sg++sh).size+so.size:=by rw[ByteArray.size_append];omega
       have s2':¬ 9223372036854775807<sg.size+sh.size+so.size:=by omega
       have hsz3:(sg++sh++so).size≤200:=by simp only[ByteArray.size_append];omega
       have hD:=H8.out.below (Below.refl _ _).drew
       refine dQ (fun w'=>w'.cell? ⟨w.heap.size,2,none⟩=some (.int .i64 e.log)∧w'.cell? ⟨w.heap.size,4,none⟩=some (.slice oa on oc)) 11 12 ⟨hD.1.a2,hD.1.a4⟩ (fun hH=>?_)
       have HR0:=aB hD
       clear hD
       refine bU [[0,1,2,4,9],[1,2,4,9],[3,4,9],[6,7,8,9],[7,8,9],[8,9]] hH ?_
       refine bM (i:=2) rfl (fun K hK=>?_)
       go_simp
       go_at_call 45
       refine(HC.out.2.2.2.1 _).mono ?_
       rintro r y1 ⟨rfl,hb⟩
       have HR1:=aB (HR0.out.below hb)
       clear hb
       refine bH hK ⟨HR1.out.1.a2,HR1.out.1.a4⟩ ?_
       clear hK K
       intro hH
       refine bM (i:=4) rfl (fun K hK=>?_)
       go_simp
       go_at_call 153
       refine(HC.out.2.2.2.2.1 _).mono ?_
       rintro r y2 ⟨rfl,hb⟩
       have HR2:=aB (HR1.out.below hb)
       clear hb
       refine bH hK ⟨HR2.out.1.a2,HR2.out.1.a4⟩ ?_
       clear hK K
       intro hH
       refine bU [[5,10]] hH ?_
       refine bM (i:=9) rfl (fun K hK=>?_)
       go_simp
       go_at_call 45
       refine(HC.out.2.2.1 _).mono ?_
       rintro r y3 ⟨rfl,hb⟩
       have HR3:=aB (HR2.out.below hb)
       clear hb
       refine bH hK ⟨HR3.out.1.a2,HR3.out.1.a4⟩ ?_
       clear hK K
       intro hH
       refine bU [[10]] hH ?_
       refine tkL rfl (fun K hK=>?_)
       go_simp
       go_at_call 152
       refine(gM HR3.out _ (by omega)).mono ?_
       rintro r w9 ⟨rfl,h9⟩
       have hmid:Tx (sg++sh++so) (aS e.log++dY sf++aS (on:Int)):=(HT.out.2.2.2.1.add HT.out.2.2.2.2.2).add HT.out.2.2.1
       rw[hmid.list]at h9
       have H9:=aB h9
       clear h9 hmid
       refine hK.out _ _ (tkD ?_)
       clear hK K hH
       obtain⟨A3,hA3⟩:∃ A,A2++(aS e.log++dY sf++aS (on:Int))=A:=⟨_,rfl⟩
       have hl3:A3.length≤130000009:=by
        rw[← hA3,List.length_append,List.length_append,List.length_append]
        have h7:=(aR e.log).2
        have h8:=eY sf
        have h9:=(aR (on:Int)).2
        omega
       rw[hA3]at H9
       obtain⟨zq,hzq⟩:∃ z:Nat,(sg++sh++so).size=z:=⟨_,rfl⟩
       rw[hzq]
       clear hzq hsz3
       have HA3:=aB hA3
       have a4:=H9.out.1.a4
       clear hA3
       go_wp2
       clear a4
       go_loopw [11,86] (fun _ y wr=>∃ k:Nat,k≤on∧y= .int .i64 (k:Int)∧Ld w wr (.slice xa xn xc) (.slice ya yn yc) (.int .i64 e.log) (.slice ma mn mc) (.slice oa on oc) (A3++(e.ns.take k).flatMap ntL)) (fun _ y _=>on - (intOf y).toNat)
       case atStart=>exact⟨0,by omega,rfl,by simpa using H9.out⟩
       case round=>
        obtain⟨k,hk,rfl,hld⟩:=hrel
        have HM:=aB hld
        have hlen:∀ k,((e.ns.take k).flatMap ntL).length≤20600*100000:=fun k=>by
         refine Nat.le_trans (fZ (K:=20600) _ (fun x hx=>?_)) ?_
         · have h1:=HOK.out.ns x (List.mem_of_mem_take hx)
           unfold ntL
           rw[List.length_append]
           have h2:=eY x.1
           have h3:=eY x.2
           omega
         · rw[List.length_take]
           exact Nat.mul_le_mul_left _ (by rw[HO.out.2];omega)
        by_cases hlk:k<on
        · have hkl:k<e.ns.length:=by rw[HO.out.2];exact hlk
          obtain⟨b,off,rfl,hbl,c0,c1⟩:=cY (HO.out.1.below hld.1.bel) hkl
          have hv:=HOK.out.ns _ (List.getElem_mem hkl)
          have htk:=flat_take (f:=ntL) hkl
          have hlk2:=hlen k
          obtain⟨u,hu⟩:∃ u,e.ns[k]=u:=⟨_,rfl⟩
          rw[hu]at c0 c1 hv htk
          obtain⟨u1,u2⟩:=u
          simp only at c0 c1 hv
          obtain⟨n4,p4,q4,d4⟩:=lC u1 (by omega)
          obtain⟨n5,p5,q5,d5⟩:=lC u2 (by omega)
          have hall:Tx (n4++n5) (ntL (u1,u2)):=p4.add p5
          have hall2:(n4++n5).size≤30000:=by simp only[ByteArray.size_append];omega
          have t1:¬ 9223372036854775807<n4.size+n5.size:=by omega
          obtain⟨w5,hw5⟩:∃ w5,wr.alloc (.cells #[.string u1,.string u2] 74)=w5:=⟨_,rfl⟩
          have hb5:Below wr.heap.size wr w5:=by rw[← hw5];exact(Below.refl _ _).alloc (Nat.le_refl _) _
          obtain⟨ub,hub⟩:∃ ub,wr.heap.size=ub:=⟨_,rfl⟩
          have hp5:w5.cell? ⟨ub,0,none⟩=some (.string u1)∧w5.cell? ⟨ub,1,none⟩=some (.string u2):=by rw[← hw5,←hub];constructor<;>simp[go_sem]
          have H5:=aB (aA (hld.below hb5) hp5)
          have HD:=aB (aA d4 d5)
          have HN:=aB (aA hall (aA hall2 (aA htk hlk2)))
          have x0:(k:Int)<(on:Int):=by omega
          have x1:(0:Int)≤(k:Int):=by omega
          clear hld hb5 hp5 d4 d5 p4 p5 q4 q5 hall hall2 htk hlk2 hlen hv hu
          go_wp2
          refine dQ (fun w'=>w'.cell? ⟨ub,0,none⟩=some (.string u1)∧w'.cell? ⟨ub,1,none⟩=some (.string u2)) 7 8 H5.out.2 (fun hH=>?_)
          have HV0:=aB (aA (H5.out.1.below (Below.refl _ _).drew) hH)
          refine bU [[0,1,2,5],[1,2,5],[3,4,5],[4,5]] hH ?_
          refine bM (i:=2) rfl (fun K hK=>?_)
          go_simp
          go_at_call 153
          refine(HD.out.1 _).mono ?_
          rintro r y1 ⟨rfl,hb⟩
          have HV1:=aB (aA (HV0.out.1.below hb) (aA ((hb.cell (p:=⟨ub,0,none⟩) (World.block_lt_of_cell? _ _ HV0.out.2.1)).trans HV0.out.2.1) ((hb.cell (p:=⟨ub,1,none⟩) (World.block_lt_of_cell? _ _ HV0.out.2.2)).trans HV0.out.2.2)))
          clear hb
          refine bH hK HV1.out.2 ?_
          clear hK K
          intro hH
          refine bM (i:=5) rfl (fun K hK=>?_)
          go_simp
          go_at_call 153
          refine(HD.out.2 _).mono ?_
          rintro r y2 ⟨rfl,hb⟩
          have HV2:=aB (aA (HV1.out.1.below hb) (aA ((hb.cell (p:=⟨ub,0,none⟩) (World.block_lt_of_cell? _ _ HV1.out.2.1)).trans HV1.out.2.1) ((hb.cell (p:=⟨ub,1,none⟩) (World.block_lt_of_cell? _ _ HV1.out.2.2)).trans HV1.out.2.2)))
          clear hb
          refine bH hK HV2.out.2 ?_
          clear hK K
          intro hH
          refine bU [[6]] hH ?_
          refine tkL rfl (fun K hK=>?_)
          go_simp
          go_at_call 152
          refine(gM HV2.out.1 _ (by have:=HN.out.2.1;have:=HN.out.2.2.2;rw[List.length_append];omega)).mono ?_
          rintro r w10 ⟨rfl,h10⟩
          rw[HN.out.1.list,List.append_assoc,←HN.out.2.2.1]at h10
          have H10:=aB h10
          clear h10
          refine hK.out _ _ (tkD ?_)
          clear hK K hH
          go_wp2
          go_roundw
          case rel=>exact⟨k+1,by omega,by go_num,H10.out⟩
          case measure=>simp[intOf];omega
        · have hkx:k=on:=by omega
          have x0:¬ (k:Int)<(on:Int):=by omega
          have hfull:e.ns.take k=e.ns:=by rw[hkx,←HO.out.2];exact List.take_length
          rw[hfull]at HM
          clear hld hlen hfull
          go_wp2_with (go_at_call 155;go_loud (refine(bld_string HM.out.2.1 (by have:=HM.out.2.2;omega)).mono ?_);rintro r w11 ⟨rfl,hb11⟩;have H11:=aB hb11;clear hb11)
          go_ret
          have hsf:dY sf=aS (flL e.fl).length++flL e.fl:=by
           unfold dY
           rw[HT.out.2.2.2.2.1.list,HT.out.2.2.2.2.1.size]
          have heq:A3++e.ns.flatMap ntL=eE e:=by
           rw[← HA3.out,←HA2.out,←HA.out,hsf]
           unfold eE
           rw[HX.out.2,HY.out.2,HO.out.2]
          refine⟨by rw[← heq];rfl,HM.out.1.bel.trans (H11.out.mono (by omega))⟩
end
section
open Go.RowKit
variable {w w' w0:World} {F F' G G' H:Nat→Prop} {B db mb lb mp mm:Nat} {D D':Dk} {L L':Lg} {dir:ByteArray} {s t:PS} {seq:Int} {stuck:Bool} {v:Value}
theorem load_ed {b:Nat} {x0 x1 x3 x4:Value} {x2:Int} (h0:w.cell? ⟨b,0,none⟩=some x0) (h1:w.cell? ⟨b,1,none⟩=some x1) (h2:w.cell? ⟨b,2,none⟩=some (.int .i64 x2)) (h3:w.cell? ⟨b,3,none⟩=some x3) (h4:w.cell? ⟨b,4,none⟩=some x4):
 (loadVar 56 ⟨b,0,none⟩).run Tryz.prog w= .ok (.agg #[x0,x1,.int .i64 x2,x3,x4]) w:=by
 simp[go_sem,loadVar,h0,h1,h2,h3,h4]
structure EdB (w:World) (b:Nat) (x0 x1 x2 x3 x4:Value):Prop where
 z0:w.cell? ⟨b,0,none⟩=some x0
 z1:w.cell? ⟨b,1,none⟩=some x1
 z2:w.cell? ⟨b,2,none⟩=some x2
 z3:w.cell? ⟨b,3,none⟩=some x3
 z4:w.cell? ⟨b,4,none⟩=some x4
 zf:∀ j,w.frozen? ⟨b,j,none⟩=false
def FwAns (e:PE) (w:World) (r:Ending) (w':World):Prop:=∃ v,r= .returned v∧EdV w' v e∧Below w.heap.size w w'
end
section
open Go.RowKit
variable {w w' w0:World} {F F' G G' H:Nat→Prop} {B db mb lb mp mm k:Nat} {D D':Dk} {L L':Lg} {S:List (Nat×Fl)} {dir r:ByteArray} {s t:PS} {q size seq:Int} {stuck:Bool} {v:Value}
abbrev wB:ByteArray:=⟨#[87]⟩
end
end Go.Proofs.YtpfibkgmfapnjaaGreatDoor
