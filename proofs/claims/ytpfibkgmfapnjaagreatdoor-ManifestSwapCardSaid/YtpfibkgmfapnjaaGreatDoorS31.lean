/- Manifest: Commit of an edit without notes; a region that calls Apply and keeps its state. -/
import Derived.Test.YtpfibkgmfapnjaaGreatDoorS30
import Derived.Test.YtpfibkgmfapnjaaGreatDoorS29
import Derived.Test.YtpfibkgmfapnjaaGreatDoorS13
import Derived.Laws.ShiftsVarLaws
import Derived.IntWalk
import Derived.Defers
import Derived.Recover
import Derived.Laws.Pointers
import Derived.Test.YtpfibkgmfapnjaaGreatDoorS4
set_option linter.unusedSimpArgs false
set_option linter.unusedVariables false
namespace Go.Proofs.YtpfibkgmfapnjaaGreatDoor
section
open Go.RowKit
variable {w w' w0:World} {F F' G G' H:Nat→Prop} {B db mb lb mp mm k n:Nat} {D D':Dk} {L L':Lg} {S:List (Nat×Fl)} {dir dr:ByteArray} {s t:PS} {e:PE} {seq:Int} {stuck:Bool} {v:Value}
theorem cl_list (h:aF F w db mb D) (hon:D.on=true) (p:ByteArray) (hn:(D.list p).length=n):Calls Tryz.prog 23 #[.pointer (some ⟨db,0,none⟩),.string p] w fun e w'=>∃ a c,e= .returned (.slice a n c)∧Below w.heap.size w w':=by
 refine(list_any h hon p).mono ?_
 rintro e w' ⟨⟨v,rfl,ho⟩,hb⟩
 obtain⟨a,c,rfl,_⟩:=aI ho
 rw[hn]
 exact⟨a,c,rfl,hb⟩
def AqAns (t:PS) (c:Int) (w:World) (r:Ending) (w':World):Prop:=
 ∃ fa fc la lc na nc,r= .returned (.tuple #[.agg #[.slice fa t.fs.length fc,.int .i64 t.next,.int .i64 t.log,.slice la t.fl.length lc,.slice na t.ns.length nc],.int .i64 c])∧
  bE eFi w' w.heap.size (.slice fa t.fs.length fc) t.fs∧bE eVec w' w.heap.size (.slice la t.fl.length lc) t.fl∧bE eNt w' w.heap.size (.slice na t.ns.length nc) t.ns∧Below w.heap.size w w'
theorem apply_aq {sv ev:Value} (hs:StV w sv s) (he:EdV w ev e) (hg:cR s) (ha:e.add.length≤100000) (hr:e.rem.length≤100000) (hl:e.fl.length≤100000) (hn:e.ns.length≤100000):
 Calls Tryz.prog 26 #[sv,ev] w (AqAns (aO s e).2 (aO s e).1 w):=by
 refine(apply_any hs he hg ha hr hl hn).mono ?_
 rintro r w' ⟨hb,v,rfl,fv,lv,nv,rfl,o1,o2,o3⟩
 obtain⟨fa,fc,rfl,_,_⟩:=aI o1
 obtain⟨la,lc,rfl,_,_⟩:=aI o2
 obtain⟨na,nc,rfl,_,_⟩:=aI o3
 exact⟨fa,fc,la,lc,na,nc,rfl,o1,o2,o3,hb⟩
def CmAns (t:PS) (c:Int) (w:World) (y5 y6:Value) (w':World):Prop:=
 Below w.heap.size w w'∧∃ ob fa fc la lc na nc,y5= .pointer (some ⟨ob,0,none⟩)∧y6= .int .i64 c∧w.heap.size≤ob∧eH w' ob (.slice fa t.fs.length fc) (.int .i64 t.next) (.int .i64 t.log) (.slice la t.fl.length lc) (.slice na t.ns.length nc)∧
  bE eFi w' w.heap.size (.slice fa t.fs.length fc) t.fs∧bE eVec w' w.heap.size (.slice la t.fl.length lc) t.fl∧bE eNt w' w.heap.size (.slice na t.ns.length nc) t.ns∧
  (∀ q,(Value.slice fa t.fs.length fc).ownBlock=some q→q≠ob)∧(∀ q,(Value.slice la t.fl.length lc).ownBlock=some q→q≠ob)∧(∀ q,(Value.slice na t.ns.length nc).ownBlock=some q→q≠ob)
theorem kB {c:Int} {w1 w2:World} {C ob:Nat} {fa la na:Option Addr} {fc lc nc:Nat} (hb:Below w1.heap.size w1 w2) (hz:gG w2 ob) (hob:w1.heap.size≤ob) (o1:bE eFi w2 C (.slice fa t.fs.length fc) t.fs) (o2:bE eVec w2 C (.slice la t.fl.length lc) t.fl) (o3:bE eNt w2 C (.slice na t.ns.length nc) t.ns) (hC:w1.heap.size≤C)
 (n1:∀ q,(Value.slice fa t.fs.length fc).ownBlock=some q→q≠ob) (n2:∀ q,(Value.slice la t.fl.length lc).ownBlock=some q→q≠ob) (n3:∀ q,(Value.slice na t.ns.length nc).ownBlock=some q→q≠ob):
 CmAns t c w1 (.pointer (some ⟨ob,0,none⟩)) (.int .i64 c) (((((w2.setCell ⟨ob,0,none⟩ (.slice fa t.fs.length fc)).setCell ⟨ob,1,none⟩ (.int .i64 t.next)).setCell ⟨ob,2,none⟩ (.int .i64 t.log)).setCell ⟨ob,3,none⟩ (.slice la t.fl.length lc)).setCell ⟨ob,4,none⟩ (.slice na t.ns.length nc)):=
 ⟨hb.trans (tn5.below hb.size (fun q hq=>by rw[hq];exact hob)),ob,fa,fc,la,lc,na,nc,rfl,rfl,hob,cells5 (obZS hz),aK (tn5.row o1 (fun q hq=>n1 q hq)) hC,aK (tn5.row o2 (fun q hq=>n2 q hq)) hC,aK (tn5.row o3 (fun q hq=>n3 q hq)) hC,n1,n2,n3⟩
theorem eH.and {b:Nat} {x0 x1 x2 x3 x4:Value} (h:eH w b x0 x1 x2 x3 x4):w.cell? ⟨b,0,none⟩=some x0∧w.cell? ⟨b,1,none⟩=some x1∧w.cell? ⟨b,2,none⟩=some x2∧w.cell? ⟨b,3,none⟩=some x3∧w.cell? ⟨b,4,none⟩=some x4:=⟨h.z0,h.z1,h.z2,h.z3,h.z4⟩
structure MmB (w:World) (mm db lb:Nat) (dir:ByteArray) (x3 x4 x5 x6 x7:Value) (seq:Int) (stuck:Bool):Prop where
 c0:w.cell? ⟨mm,0,none⟩=some (.pointer (some ⟨db,0,none⟩))
 c1:w.cell? ⟨mm,1,none⟩=some (.string dir)
 c2:w.cell? ⟨mm,2,none⟩=some (.pointer (some ⟨lb,0,none⟩))
 c3:w.cell? ⟨mm,3,none⟩=some x3
 c4:w.cell? ⟨mm,4,none⟩=some x4
 c5:w.cell? ⟨mm,5,none⟩=some x5
 c6:w.cell? ⟨mm,6,none⟩=some x6
 c7:w.cell? ⟨mm,7,none⟩=some x7
 c8:w.cell? ⟨mm,8,none⟩=some (.int .i64 seq)
 c9:w.cell? ⟨mm,9,none⟩=some (.bool stuck)
theorem MmB.tn {x3 x4 x5 x6 x7:Value} (h:MmB w mm db lb dir x3 x4 x5 x6 x7 seq stuck) (t:Tn H w w') (hH:¬ H mm):MmB w' mm db lb dir x3 x4 x5 x6 x7 seq stuck:=
 ⟨t.cell h.c0 hH,t.cell h.c1 hH,t.cell h.c2 hH,t.cell h.c3 hH,t.cell h.c4 hH,t.cell h.c5 hH,t.cell h.c6 hH,t.cell h.c7 hH,t.cell h.c8 hH,t.cell h.c9 hH⟩
theorem MmB.below {x3 x4 x5 x6 x7:Value} (h:MmB w mm db lb dir x3 x4 x5 x6 x7 seq stuck) (hb:Below w.heap.size w w'):MmB w' mm db lb dir x3 x4 x5 x6 x7 seq stuck:=h.tn (Tn.ofBelow (F:=fun _=>False) hb) (fun e=>e)
theorem StX.go (h:StX (fun q=>F q∨q=mm) w v s) (a:fV F F' w w'):StX (fun q=>F' q∨q=mm) w' v s:=
 h.step a.t (fun q _ e=> .inl e) (fun q e=>e.elim (fun e=>(a.n q e).imp .inl id) (fun e=> .inl (.inr e)))
theorem eH.tnH {b:Nat} {x0 x1 x2 x3 x4:Value} (h:eH w b x0 x1 x2 x3 x4) (t:Tn H w w') (hH:¬ H b):eH w' b x0 x1 x2 x3 x4:=
 ⟨t.cell h.z0 hH,t.cell h.z1 hH,t.cell h.z2 hH,t.cell h.z3 hH,t.cell h.z4 hH,fun j=>(t.frozen (p:=⟨b,j,none⟩) h.lt hH).trans (h.zf j)⟩
end
namespace Rw
def getK:Nat→Nat→Nat→List UInt8→Nat×Nat×Nat
 |0,_,_,_=>(0,0,4)
 |_+1,_,_,[]=>(0,0,3)
 |f+1,i,v,c::r=>
  if 128≤c.toNat then getK f (i+1) (v+c.toNat%128*128 ^ i) r
  else if 0<i∧c=0 then(0,0,4)
  else(v+c.toNat%128*128 ^ i,i+1,0)
def getF (l:List UInt8):Nat×Nat×Nat:=getK 9 0 0 l
theorem getK_none (f:Nat):∀ (i v:Nat) (l:List UInt8),(getK f i v l).2.2≠0→(getK f i v l).1=0∧(getK f i v l).2.1=0:=by
 induction f with
 |zero=>intro i v l _;exact⟨rfl,rfl⟩
 |succ f ih=>
  intro i v l
  cases l with
  |nil=>intro _;exact⟨rfl,rfl⟩
  |cons c r=>
   rw[getK]
   split
   · exact ih _ _ _
   · split
     · intro _;exact⟨rfl,rfl⟩
     · intro h;exact absurd rfl h
end Rw
section
open Go.RowKit
theorem and128 (c:UInt8):bits .and .u8 (c.toNat:Int) 128=((128*(c.toNat/128):Nat):Int):=by
 have hc:=c.toNat_lt
 have h:=(bits_nat .u8 8 (by decide) (fun n h0 h1=>by rw[IntKind.wrap_u8];omega) c.toNat 128 (by omega) (by omega)).1
 have e:c.toNat &&& 128=128*(c.toNat/128):=by
  have:∀ n:Nat,n<256→n &&& 128=128*(n/128):=by decide+kernel
  exact this _ hc
 rw[e]at h
 exact h
theorem andNot128 (c:UInt8):bits .andNot .u8 (c.toNat:Int) 128=((c.toNat%128:Nat):Int):=by
 have:∀ n:Nat,n<256→bits .andNot .u8 (n:Int) 128=((n%128:Nat):Int):=by decide+kernel
 exact this _ c.toNat_lt
theorem pow128_le {i:Nat} (h:i≤8):128 ^ i≤72057594037927936:=Nat.pow_le_pow_right (by decide) h
theorem get_lt {v c p:Nat} (h:v<p):v+c%128*p<p*128:=by
 have:c%128*p≤127*p:=Nat.mul_le_mul_right _ (by omega)
 omega
theorem getBits (v i:Nat) (c:UInt8) (hi:i≤8) (hv:v<128 ^ i):
 bits .or .i64 (v:Int) (wrap64 (wrap64 (bits .andNot .u8 (c.toNat:Int) 128)*2 ^ (7*i)))=((v+c.toNat%128*128 ^ i:Nat):Int):=by
 have hp:=pow128_le hi
 have e2:(2:Int) ^ (7*i)=((128 ^ i:Nat):Int):=by rw[Int.pow_mul];norm_cast
 have hm:c.toNat%128*128 ^ i≤127*72057594037927936:=Nat.mul_le_mul (by omega) hp
 rw[andNot128,e2]
 have w1:wrap64 ((c.toNat%128:Nat):Int)=((c.toNat%128:Nat):Int):=w64 (by omega) (by omega)
 have w2:wrap64 (((c.toNat%128:Nat):Int)*((128 ^ i:Nat):Int))=((c.toNat%128*128 ^ i:Nat):Int):=by
  rw[← Int.natCast_mul];exact w64 (by omega) (by omega)
 rw[w1,w2]
 have h:=(bits_nat .i64 63 (by decide) (fun n h0 h1=>by exact IntWalk.i64_in _ (by omega)) v (c.toNat%128*128 ^ i) (by omega) (by omega)).2
 rw[h]
 have hor:=Nat.two_pow_add_eq_or_of_lt (i:=7*i) (b:=v) (by rw[Nat.pow_mul];exact hv) (c.toNat%128)
 rw[Nat.pow_mul]at hor
 rw[Nat.or_comm,Nat.mul_comm,show(128:Nat)=2 ^ 7 from rfl,←hor]
 rw[Nat.add_comm,Nat.mul_comm]
def GetEnd (l:List UInt8) (w:World) (e:Ending) (w':World):Prop:=
 w'=w∧((Rw.getF l).2.2=0∧e= .returned (.tuple #[.int .i64 ((Rw.getF l).1:Int),.int .i64 ((Rw.getF l).2.1:Int)])∨
  (Rw.getF l).2.2≠0∧e= .panicked [{v:= .iface 27 (.int .i64 ((Rw.getF l).2.2:Int)),recovered:=false}])
set_option maxRecDepth 100000 in
theorem getvar_in (s:ByteArray) (w:World) (hs:s.size≤maxLen):
 Calls Tryz.prog 337 #[.string s] w (GetEnd s.data.toList w):=by
 unfold maxLen at hs
 go_enter Tryz.func337,Tryz.ntmps337
 go_wp2
 go_loop [4,6] (fun x y=>∃ (f i v:Nat),f+i=9∧i≤s.size∧x= .int .i64 (v:Int)∧y= .int .i64 (i:Int)∧Rw.getK f i v (s.data.toList.drop i)=Rw.getF s.data.toList∧v<128 ^ i)
  (fun _ y=>9 - (intOf y).toNat)
 case atStart=>exact⟨9,0,0,rfl,by omega,rfl,rfl,rfl,by omega⟩
 case round=>
  obtain⟨f,i,v,hf,hi,rfl,rfl,hk,hv⟩:=hrel
  have HK:=aB hk
  have HV:=aB hv
  have HF:=aB hf
  have hi9:i≤9:=by omega
  clear hk hv hf
  by_cases h9:i<9
  · by_cases hlt:i<s.size
    · have hdrop:s.data.toList.drop i=s[i]::s.data.toList.drop (i+1):=List.drop_eq_getElem_cons (by simpa using hlt)
      obtain⟨f',rfl⟩:∃ f',f=f'+1:=⟨8 - i,by have:=HF.out;omega⟩
      have hk1:=HK.out
      rw[hdrop]at hk1
      have HD:=aB hk1
      clear hdrop hk1 HK
      have hb:=getBits v i s[i] (by omega) HV.out
      have hc:=s[i].toNat_lt
      have hne:((i:Int) == (s.size:Int))=false:=by simp;omega
      by_cases hbig:128≤s[i].toNat
      · have ha:(bits .and .u8 (s[i].toNat:Int) 128 != 0)=true:=by rw[and128,bne_iff_ne];omega
        have HN:Hid (Rw.getK f' (i+1) (v+s[i].toNat%128*128 ^ i) (s.data.toList.drop (i+1))=Rw.getF s.data.toList):=by
         have:=HD.out;rw[Rw.getK,if_pos hbig]at this;exact this
        go_wp2
        go_round
        case rel=>
         refine⟨f',i+1,_,by have:=HF.out;omega,by omega,rfl,by go_num,HN.out,?_⟩
         rw[Nat.pow_succ]
         exact get_lt HV.out
        case measure=>simp[intOf];omega
      · have ha:(bits .and .u8 (s[i].toNat:Int) 128 != 0)=false:=by rw[and128];simp;omega
        by_cases hz:0<i∧s[i]=0
        · have HN:Hid ((0,0,4)=Rw.getF s.data.toList):=by
           have:=HD.out;rw[Rw.getK,if_neg hbig,if_pos hz]at this;exact this
          obtain⟨hi0,hz0⟩:=hz
          have hz1:((s[i].toNat:Int) == 0)=true:=by rw[hz0];rfl
          clear hz0
          go_wp2
          refine⟨rfl,rfl,Or.inr ⟨?_,?_⟩⟩
          · rw[← HN.out];decide
          · rw[← HN.out];rfl
        · have HN:Hid ((v+s[i].toNat%128*128 ^ i,i+1,0)=Rw.getF s.data.toList):=by
           have:=HD.out;rw[Rw.getK,if_neg hbig,if_neg hz]at this;exact this
          by_cases hi0:0<i
          · have hz1:((s[i].toNat:Int) == 0)=false:=by
             rw[beq_eq_false_iff_ne]
             intro h
             exact hz ⟨hi0,UInt8.toNat.inj (by simpa using h)⟩
            clear hz
            go_wp2
            go_ret2
            refine⟨rfl,Or.inl ⟨?_,?_⟩⟩
            · rw[← HN.out]
            · rw[← HN.out];rfl
          · clear hz
            go_wp2
            go_ret2
            refine⟨rfl,Or.inl ⟨?_,?_⟩⟩
            · rw[← HN.out]
            · rw[← HN.out];rfl
    · obtain rfl:i=s.size:=by omega
      obtain⟨f',rfl⟩:∃ f',f=f'+1:=⟨8 - s.size,by have:=HF.out;omega⟩
      have HN:Hid ((0,0,3)=Rw.getF s.data.toList):=by
       have:=HK.out;rw[List.drop_eq_nil_of_le (by simp),Rw.getK]at this;exact this
      have heq:((s.size:Int) == (s.size:Int))=true:=by simp
      go_wp2
      refine⟨rfl,rfl,Or.inr ⟨?_,?_⟩⟩
      · rw[← HN.out];decide
      · rw[← HN.out];rfl
  · obtain rfl:i=9:=by omega
    obtain rfl:f=0:=by have:=HF.out;omega
    have HN:Hid ((0,0,4)=Rw.getF s.data.toList):=by
     have:=HK.out;rw[Rw.getK]at this;exact this
    go_wp2
    refine⟨rfl,rfl,Or.inr ⟨?_,?_⟩⟩
    · rw[← HN.out];decide
    · rw[← HN.out];rfl
end
section
open Go.RowKit
theorem gassert_errno (x:Value) (w:World):(Instr.typeAssert (.iface 27 x) 20 27 true).run Tryz.prog w= .ok (.tuple #[x,.bool true]) w:=by kernel_rfl
theorem getvar_catch (a b c:Nat) (code:Int) (w:World) (fa:w.frozen? ⟨a,0,none⟩=false) (fb:w.frozen? ⟨b,0,none⟩=false) (fc:w.frozen? ⟨c,0,none⟩=false)
 (ca:∃ v,w.cell? ⟨a,0,none⟩=some v) (cb:∃ v,w.cell? ⟨b,0,none⟩=some v) (cc:∃ v,w.cell? ⟨c,0,none⟩=some v) (hab:a≠b) (hac:a≠c) (hbc:b≠c):
 CallsD Tryz.prog 336 #[.pointer (some ⟨a,0,none⟩),.pointer (some ⟨b,0,none⟩),.pointer (some ⟨c,0,none⟩)] (.panicking [{v:= .iface 27 (.int .i64 code),recovered:=false}]) w fun e u' w'=>
  e= .returned (.tuple #[])∧u'= .panicking [{v:= .iface 27 (.int .i64 code),recovered:=true}]∧
  w'=((w.setCell ⟨a,0,none⟩ (.int .i64 0)).setCell ⟨b,0,none⟩ (.int .i64 0)).setCell ⟨c,0,none⟩ (.int .i64 code):=by
 obtain⟨va,ca⟩:=ca
 obtain⟨vb,cb⟩:=cb
 obtain⟨vc,cc⟩:=cc
 refine callsD_of_wpS Tryz.func336 rfl fun c₀ cs hu=>?_
 apply wpS_seq
 apply wpS_region
 simp[wpOpsS,go_sem,recoverD,hu,Tryz.ntmps336,Exit.thenS]
 refine wpS_of_wp ?_
 simp only[List.replicate,Array.replicate,List.append_toArray,List.setIfInBounds_toArray,List.set_cons_zero,List.set_cons_succ,List.cons_append,List.nil_append]
 have hta:=gassert_errno
 have hnot:∀ (x:Bool) (w:World),(Op.unary .not (.bool x)).run Tryz.prog w= .ok (.bool (!x)) w:=fun _ _=>rfl
 go_wp2
 exact⟨rfl,_,rfl,_,results_none rfl _ _ _,rfl,rfl,rfl⟩
theorem getvar_idle (a b c:Nat) (w:World):
 CallsD Tryz.prog 336 #[.pointer (some ⟨a,0,none⟩),.pointer (some ⟨b,0,none⟩),.pointer (some ⟨c,0,none⟩)] .returning w fun e u' w'=>e= .returned (.tuple #[])∧u'= .returning∧w'=w:=by
 refine callsD_of_wpS Tryz.func336 rfl fun c₀ cs hu=>?_
 apply wpS_seq
 apply wpS_region
 simp[wpOpsS,go_sem,recoverD,hu,Tryz.ntmps336,Exit.thenS]
 refine wpS_of_wp ?_
 simp only[List.replicate,Array.replicate,List.append_toArray,List.setIfInBounds_toArray,List.set_cons_zero,List.set_cons_succ,List.cons_append,List.nil_append]
 go_wp2
 refine⟨rfl,.returning,?_,_,results_none rfl _ _ _,rfl,rfl,rfl⟩
 cases c₀
 simp_all
set_option maxRecDepth 100000 in
theorem getvar_any (s:ByteArray) (w:World) (hs:s.size≤maxLen):
 Calls Tryz.prog 293 #[.string s] w fun e w'=>
  e= .returned (.tuple #[.int .i64 ((Rw.getF s.data.toList).1:Int),.int .i64 ((Rw.getF s.data.toList).2.1:Int),.int .i64 ((Rw.getF s.data.toList).2.2:Int)])∧Below w.heap.size w w':=by
 have hmf:∀ (fn:Fn) (first cap:Array Value) (w:World),(Instr.makeFunc fn first cap).run Tryz.prog w= .ok (.func fn first cap) w:=fun _ _ _ _=>rfl
 go_enter_defers Tryz.func293,Tryz.ntmps293
 go_wp2_with fail
 refine(getvar_in s _ hs).mono ?_
 rintro e w' ⟨rfl,⟨hz,rfl⟩|⟨hnz,rfl⟩⟩
 · have HZ:=aB hz
   clear hz
   go_wp2
   go_region
   all_goals go_wp2
   all_goals
    refine leaves_cons (f:=336) (args:= #[.pointer (some ⟨w.heap.size,0,none⟩),.pointer (some ⟨w.heap.size+1,0,none⟩),.pointer (some ⟨w.heap.size+1+1,0,none⟩)]) (by simp) (by simp[go_sem]) ?_
    refine(getvar_idle _ _ _ _).mono ?_
    rintro e u' w'' ⟨rfl,rfl,rfl⟩
    simp[Leaves,settle,results,Tryz.results293,go_sem]
    exact⟨by rw[HZ.out];rfl,((((Below.refl _ _).alloc (Nat.le_refl _) _).alloc (by simp) _).alloc (by simp;omega) _).drew⟩
 · have HZ:=aB hnz
   clear hnz
   go_wp2
   refine leaves_cons (f:=336) (args:= #[.pointer (some ⟨w.heap.size,0,none⟩),.pointer (some ⟨w.heap.size+1,0,none⟩),.pointer (some ⟨w.heap.size+1+1,0,none⟩)]) (by simp) (by simp[go_sem]) ?_
   refine(getvar_catch _ _ _ _ _ (by simp[go_sem]) (by simp[go_sem]) (by simp[go_sem]) ⟨_,by simp[go_sem];rfl⟩ ⟨_,by simp[go_sem];rfl⟩ ⟨_,by simp[go_sem];rfl⟩ (by omega) (by omega) (by omega)).mono ?_
   rintro e u' w'' ⟨rfl,rfl,rfl⟩
   simp[Leaves,settle,results,Tryz.results293,go_sem]
   have h0:=Rw.getK_none 9 0 0 s.data.toList HZ.out
   exact⟨⟨by unfold Rw.getF;rw[h0.1];rfl,by unfold Rw.getF;rw[h0.2];rfl⟩,(((Below.refl _ _).alloc (Nat.le_refl _) _).alloc (by simp) _).alloc (by simp;omega) _⟩
end
namespace Rw
theorem big_byte (v:Nat):(UInt8.ofNat (v%128+128)).toNat=v%128+128:=by
 rw[UInt8.toNat_ofNat'];omega
theorem small_byte {v:Nat} (h:v<128):(UInt8.ofNat v).toNat=v:=by
 rw[UInt8.toNat_ofNat'];omega
theorem getK_put (k:Nat):∀ (f i a v:Nat) (more:List UInt8),k<f→v<128 ^ (k+1)→(i=0∨v≠0)→
 getK f i a (putK k v++more)=(a+v*128 ^ i,i+(putK k v).length,0):=by
 induction k with
 |zero=>
  intro f i a v more hf hv hz
  obtain⟨g,rfl⟩:∃ g,f=g+1:=⟨f - 1,by omega⟩
  have hv':v<128:=by simpa using hv
  simp only[putK,List.cons_append,List.nil_append,getK,small_byte hv',List.length_singleton]
  rw[if_neg (by omega),if_neg,Nat.mod_eq_of_lt hv']
  rintro⟨h1,h2⟩
  have:=congrArg UInt8.toNat h2
  rw[small_byte hv']at this
  rcases hz with h|h
  · omega
  · exact h this
 |succ k ih=>
  intro f i a v more hf hv hz
  obtain⟨g,rfl⟩:∃ g,f=g+1:=⟨f - 1,by omega⟩
  by_cases hs:v<128
  · rw[putK_small (k+1) hs]
    simp only[List.cons_append,List.nil_append,getK,small_byte hs,List.length_singleton]
    rw[if_neg (by omega),if_neg,Nat.mod_eq_of_lt hs]
    rintro⟨h1,h2⟩
    have:=congrArg UInt8.toNat h2
    rw[small_byte hs]at this
    rcases hz with h|h
    · omega
    · exact h this
  · rw[putK_big k (by omega)]
    simp only[List.cons_append,getK,big_byte,List.length_cons]
    rw[if_pos (by omega),ih g (i+1) _ (v/128) more (by omega) (by rw[Nat.pow_succ]at hv;omega) (by omega)]
    have e:a+(v%128+128)%128*128 ^ i+v/128*128 ^ (i+1)=a+v*128 ^ i:=by
     have e1:(v%128+128)%128=v%128:=by omega
     have e2:v=128*(v/128)+v%128:=by omega
     rw[e1,Nat.pow_succ]
     generalize 128 ^ i=p
     have e3:v*p=(128*(v/128)+v%128)*p:=by rw[← e2]
     rw[e3,Nat.add_mul,Nat.add_assoc]
     congr 1
     rw[Nat.add_comm]
     congr 1
     rw[Nat.mul_comm 128 (v/128),Nat.mul_assoc,Nat.mul_comm 128 p]
    rw[e]
    congr 2
    omega
theorem getF_put (v:Nat) (hv:v<9223372036854775808) (more:List UInt8):getF (putF v++more)=(v,(putF v).length,0):=by
 have h:=getK_put 8 9 0 0 v more (by omega) (by exact hv) (Or.inl rfl)
 simpa[getF,putF]using h
end Rw
section
open Go.RowKit
variable {w w' w0 w1 w2 w3 w4:World} {mb lb B:Nat} {ob:Option Nat} {last now:Int}
abbrev errV (code:Int):Value:= .iface 27 (.int .i64 code)
theorem vassert_errno (x:Value) (w:World):(Instr.typeAssert (.iface 27 x) 20 27 true).run Tryz.prog w= .ok (.tuple #[x,.bool true]) w:=by kernel_rfl
theorem take_short {b n:Nat} {s:ByteArray} {k:Int} (hk:k=(n:Int)) (hb:w.cell? ⟨b,0,none⟩=some (.string s)) (hs:s.size<n) (hn:n≤100):Calls Tryz.prog 339 #[.pointer (some ⟨b,0,none⟩),.int .i64 k] w fun e w'=>
 e= .panicked [{v:=errV 3,recovered:=false}]∧w'=w:=by
 subst hk
 have t1:(s.size:Int)<(n:Int):=by omega
 go_enter Tryz.func339,Tryz.ntmps339
 go_wp2
 exact⟨rfl,rfl,rfl⟩
theorem take_ok {b n:Nat} {s:ByteArray} {k:Int} (hk:k=(n:Int)) (hb:w.cell? ⟨b,0,none⟩=some (.string s)) (hf:w.frozen? ⟨b,0,none⟩=false) (hs:n≤s.size) (hm:s.size≤9223372036854775807):Calls Tryz.prog 339 #[.pointer (some ⟨b,0,none⟩),.int .i64 k] w fun e w'=>
 e= .returned (.string (s.extract 0 n))∧w'=w.setCell ⟨b,0,none⟩ (.string (s.extract n s.size)):=by
 subst hk
 have t1:¬ (s.size:Int)<(n:Int):=by omega
 go_enter Tryz.func339,Tryz.ntmps339
 go_wp2
 go_ret
 exact⟨rfl,rfl⟩
theorem getv_catch (a b c:Nat) (code:Int) (w:World) (fa:w.frozen? ⟨a,0,none⟩=false) (fb:w.frozen? ⟨b,0,none⟩=false) (fc:w.frozen? ⟨c,0,none⟩=false)
 (ca:∃ v,w.cell? ⟨a,0,none⟩=some v) (cb:∃ v,w.cell? ⟨b,0,none⟩=some v) (cc:∃ v,w.cell? ⟨c,0,none⟩=some v) (hab:a≠b) (hac:a≠c) (hbc:b≠c):
 CallsD Tryz.prog 338 #[.pointer (some ⟨a,0,none⟩),.pointer (some ⟨b,0,none⟩),.pointer (some ⟨c,0,none⟩)] (.panicking [{v:=errV code,recovered:=false}]) w fun e u' w'=>
  e= .returned (.tuple #[])∧u'= .panicking [{v:=errV code,recovered:=true}]∧
  w'=((w.setCell ⟨a,0,none⟩ (.slice none 0 0)).setCell ⟨b,0,none⟩ (.int .i64 0)).setCell ⟨c,0,none⟩ (.int .i64 code):=by
 obtain⟨va,ca⟩:=ca
 obtain⟨vb,cb⟩:=cb
 obtain⟨vc,cc⟩:=cc
 refine callsD_of_wpS Tryz.func338 rfl fun c₀ cs hu=>?_
 apply wpS_seq
 apply wpS_region
 simp[wpOpsS,go_sem,recoverD,hu,Tryz.ntmps338,Exit.thenS]
 refine wpS_of_wp ?_
 simp only[List.replicate,Array.replicate,List.append_toArray,List.setIfInBounds_toArray,List.set_cons_zero,List.set_cons_succ,List.cons_append,List.nil_append]
 have hta:=vassert_errno
 have hnot:∀ (x:Bool) (w:World),(Op.unary .not (.bool x)).run Tryz.prog w= .ok (.bool (!x)) w:=fun _ _=>rfl
 go_wp2
 exact⟨rfl,_,rfl,_,results_none rfl _ _ _,rfl,rfl,rfl⟩
theorem getv_idle (a b c:Nat) (w:World):
 CallsD Tryz.prog 338 #[.pointer (some ⟨a,0,none⟩),.pointer (some ⟨b,0,none⟩),.pointer (some ⟨c,0,none⟩)] .returning w fun e u' w'=>e= .returned (.tuple #[])∧u'= .returning∧w'=w:=by
 refine callsD_of_wpS Tryz.func338 rfl fun c₀ cs hu=>?_
 apply wpS_seq
 apply wpS_region
 simp[wpOpsS,go_sem,recoverD,hu,Tryz.ntmps338,Exit.thenS]
 refine wpS_of_wp ?_
 simp only[List.replicate,Array.replicate,List.append_toArray,List.setIfInBounds_toArray,List.set_cons_zero,List.set_cons_succ,List.cons_append,List.nil_append]
 go_wp2
 refine⟨rfl,.returning,?_,_,results_none rfl _ _ _,rfl,rfl,rfl⟩
 cases c₀
 simp_all
end
section
open Go.RowKit
theorem vbeV_beF:∀ (k v:Nat),v<256 ^ k→Rw.beV (Rw.beF k v)=v
 |0,v,h=>by simp at h;subst h;rfl
 |k+1,v,h=>by
  have hp:0<256 ^ k:=Nat.pow_pos (by decide)
  unfold Rw.beF
  have hd:v/256 ^ k<256:=by
   rw[Nat.div_lt_iff_lt_mul hp,Nat.mul_comm]
   rw[Nat.pow_succ]at h
   exact h
  have hm:=Nat.div_add_mod v (256 ^ k)
  have h1:Rw.beF k v=Rw.beF k (v%256 ^ k):=by
   conv=>lhs;rw[← hm,Nat.add_comm,Nat.mul_comm]
   exact beF_mod k _ _
  rw[beV_cons,Rw.beF_len,h1,vbeV_beF k _ (Nat.mod_lt _ hp)]
  have h2:(UInt8.ofNat (v/256 ^ k)).toNat=v/256 ^ k:=by
   rw[UInt8.toNat_ofNat']
   exact Nat.mod_eq_of_lt hd
  rw[h2,Nat.mul_comm]
  exact hm
theorem vbeF_inj {k a b:Nat} (ha:a<256 ^ k) (hb:b<256 ^ k) (h:Rw.beF k a=Rw.beF k b):a=b:=by
 have:=congrArg Rw.beV h
 rwa [vbeV_beF k a ha,vbeV_beF k b hb]at this
theorem enc6_inj {a b:Int} (ha:okT a=true) (hb:okT b=true) (h:gU a=gU b):a=b:=by
 simp only[okT,decide_eq_true_eq]at ha hb
 have:=vbeF_inj (k:=6) (a:=a.toNat) (b:=b.toNat) (by omega) (by omega) h
 omega
theorem flat6_inj:∀ {a b:List Int} {x y:List UInt8},a.all okT=true→b.all okT=true→a.length=b.length→a.flatMap gU++x=b.flatMap gU++y→a=b∧x=y
 |[],[],_,_,_,_,_,h=>⟨rfl,by simpa using h⟩
 |[],_::_,_,_,_,_,h,_=>by simp at h
 |_::_,[],_,_,_,_,h,_=>by simp at h
 |s::a,t::b,x,y,ha,hb,hl,h=>by
  rw[List.flatMap_cons,List.flatMap_cons,List.append_assoc,List.append_assoc]at h
  rw[List.all_cons,Bool.and_eq_true]at ha hb
  have h2:=List.append_inj h (by rw[lR,lR])
  obtain⟨e1,e2⟩:=flat6_inj ha.2 hb.2 (by simpa using hl) h2.2
  exact⟨by rw[enc6_inj ha.1 hb.1 h2.1,e1],e2⟩
theorem encV_inj {a b:List Int} {x y:List UInt8} (ha:bK a=true) (hb:bK b=true) (h:fG a++x=fG b++y):a=b∧x=y:=by
 simp only[bK,Bool.and_eq_true,decide_eq_true_eq]at ha hb
 unfold fG at h
 rw[List.cons_append,List.cons_append]at h
 have h1:=(List.cons.inj h).1
 have h2:=(List.cons.inj h).2
 have hl:a.length=b.length:=by
  have:=congrArg UInt8.toNat h1
  rw[UInt8.toNat_ofNat',UInt8.toNat_ofNat']at this
  omega
 exact flat6_inj ha.2 hb.2 hl h2
def okC (last:Int) (c:Int×List Int×Int):Prop:=1≤c.1∧c.1≤last∧bK c.2.1=true∧1≤c.2.2∧c.2.2≤281474976710656
structure GoodL (last:Int) (L:List (Int×List Int×Int)):Prop where
 la:0≤last∧last<72057594037927936
 rise:L.Pairwise (fun a b=>a.1<b.1)
 each:∀ c∈L,okC last c
 few:L.length≤16
def Encd (s:ByteArray):Prop:=∃ last L,GoodL last L∧s.data.toList=putS last L
def NoVec (s:ByteArray):Prop:=¬ ∃ vs r,bK vs=true∧s.data.toList=fG vs++r
theorem nov_short {s:ByteArray} (h:s.size<1):NoVec s:=by
 rintro⟨vs,r,hv,e⟩
 have:=congrArg List.length e
 have e1:s.data.toList.length=s.size:=rfl
 rw[List.length_append]at this
 unfold fG at this
 rw[List.length_cons]at this
 omega
theorem nov_head {s:ByteArray} {c:UInt8} {t:List UInt8} (h:s.data.toList=c::t) (hc:c.toNat<1∨8<c.toNat):NoVec s:=by
 rintro⟨vs,r,hv,e⟩
 rw[h]at e
 unfold fG at e
 rw[List.cons_append]at e
 have h1:=congrArg UInt8.toNat (List.cons.inj e).1
 simp only[bK,Bool.and_eq_true,decide_eq_true_eq]at hv
 rw[UInt8.toNat_ofNat']at h1
 omega
theorem nov_rest {s r:ByteArray} {c:UInt8} {vs:List Int} (h:s.data.toList=c::(vs.flatMap gU++r.data.toList)) (hc:vs.length<c.toNat) (hr:r.size<6):NoVec s:=by
 rintro⟨us,t,hv,e⟩
 rw[h]at e
 unfold fG at e
 rw[List.cons_append]at e
 have h1:=congrArg UInt8.toNat (List.cons.inj e).1
 simp only[bK,Bool.and_eq_true,decide_eq_true_eq]at hv
 rw[UInt8.toNat_ofNat']at h1
 have h2:=congrArg List.length (List.cons.inj e).2
 rw[List.length_append,List.length_append,jV,jV]at h2
 have e1:r.data.toList.length=r.size:=rfl
 omega
def Nxt (r:ByteArray) (ahead last:Int):Prop:=∃ c x,okC last c∧ahead<c.1∧r.data.toList=enc7 c.1++(enc7 c.2.2++(fG c.2.1++x))
def Nxt1 (r:ByteArray):Prop:=∃ (u:Int) (vs:List Int) (x:List UInt8),1≤u∧u≤281474976710656∧bK vs=true∧r.data.toList=enc7 u++(fG vs++x)
end
end Go.Proofs.YtpfibkgmfapnjaaGreatDoor
