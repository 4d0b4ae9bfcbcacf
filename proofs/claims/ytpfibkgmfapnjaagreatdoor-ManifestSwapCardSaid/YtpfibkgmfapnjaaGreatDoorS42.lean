/- Manifest: the laws' first call. -/
import Derived.Test.YtpfibkgmfapnjaaGreatDoorS35
import Derived.Test.YtpfibkgmfapnjaaGreatDoorS6
import Derived.Test.YtpfibkgmfapnjaaGreatDoorS10
import Derived.BigQuiet
import Derived.Test.YtpfibkgmfapnjaaGreatDoorS21
import Derived.Test.YtpfibkgmfapnjaaGreatDoorGbS
import Derived.Test.YtpfibkgmfapnjaaGreatDoorS41
set_option linter.unusedSimpArgs false
set_option linter.unusedVariables false
namespace Go.Proofs.YtpfibkgmfapnjaaGreatDoor
section
open Go.RowKit
variable {w w' w0:World} {F F' G G' H:Nat→Prop} {B db mb lb mp mm k n fb:Nat} {D D':Dk} {L L':Lg} {S:List (Nat×Fl)} {dir dr:ByteArray} {s t:PS} {e:PE} {seq:Int} {stuck:Bool} {v:Value}
theorem mstuck_c (c0:w.cell? ⟨mm,0,none⟩=some (.pointer (some ⟨db,0,none⟩))) (c9:w.cell? ⟨mm,9,none⟩=some (.bool stuck)):Calls Tryz.prog 22 #[.pointer (some ⟨mm,0,none⟩)] w fun e w'=>e= .returned (.bool stuck)∧w=w':=by
 have hn:=jD c0
 have HN:=aB hn
 clear hn c0
 go_enter Tryz.func22,Tryz.ntmps22
 go_wp2_with (go_at_call 43;go_loud (refine HN.out.mono ?_);rintro e w2 ⟨rfl,rfl⟩)
 go_ret
 exact⟨rfl,rfl⟩
theorem FiB.tnH {b:Nat} {u:Fi} (h:FiB w b u) (t:Tn H w w') (hH:¬ H b):FiB w' b u:=⟨t.cell h.c0 hH,t.cell h.c1 hH,t.cell h.c2 hH,t.cell h.c3 hH,t.cell h.c4 hH,t.cell h.c5 hH⟩
abbrev dm:ByteArray:=⟨#[109]⟩
end
section
open Go.RowKit
set_option maxRecDepth 100000 in
theorem meqfi (lv nu ct sz:Int) (f l:ByteArray) (w:World):(Op.equalIn 10000 79 (.agg #[.int .i64 lv,.int .i64 nu,.int .i64 ct,.int .i64 sz,.string f,.string l]) (.agg #[.int .i64 lv,.int .i64 nu,.int .i64 ct,.int .i64 sz,.string f,.string l])).run Tryz.prog w= .ok true w:=by
 have hp:∀ (xs:Array Value) (o:Nat) (v:Value) (w:World),xs[o]?=some v→(part 9 xs o).run Tryz.prog w= .ok v w:=by
  intro xs o v w h
  simp[part,Tryz.isAgg9,h,Result.andThen]
 have hpi:∀ (xs:Array Value) (o:Nat) (v:Value) (w:World),xs[o]?=some v→(part 3 xs o).run Tryz.prog w= .ok v w:=by
  intro xs o v w h
  simp[part,Tryz.isAgg3,h,Result.andThen]
 have es:∀ (d:Nat) (a:ByteArray) (w:World),(Op.equalIn (d+1) 9 (.string a) (.string a)).run Tryz.prog w= .ok true w:=fun d a w=>by
  have hb:(a == a)=true:=by
   cases a with|mk x=>
   show(x == x)=true
   simp
  simp[Op.equalIn,go_sem,hb]
 have ei:∀ (d:Nat) (n:Int) (w:World),(Op.equalIn (d+1) 3 (.int .i64 n) (.int .i64 n)).run Tryz.prog w= .ok true w:=fun d n w=>by simp[Op.equalIn,go_sem]
 have es9:=es 9998
 have ei9:=ei 9998
 rw[show(10000:Nat)=9999+1 from rfl,run_equalIn_struct w 9999 _ _ _ (by kernel_rfl) (by kernel_rfl)]
 have hf:(Tryz.prog.fieldsOf 79).toList=_:=congrArg Array.toList (by unfold Program.fieldsOf;rw[Tryz.underlying79])
 rw[hf]
 clear hf
 simp only[Op.eqFields,Sem.run_bind,Sem.run_ite,Sem.run_pure]
 simp[hp,hpi,es9,ei9,Result.andThen]
set_option maxRecDepth 100000 in
theorem meqnt (f l:ByteArray) (w:World):(Op.equalIn 10000 74 (.agg #[.string f,.string l]) (.agg #[.string f,.string l])).run Tryz.prog w= .ok true w:=by
 have hp:∀ (xs:Array Value) (o:Nat) (v:Value) (w:World),xs[o]?=some v→(part 9 xs o).run Tryz.prog w= .ok v w:=by
  intro xs o v w h
  simp[part,Tryz.isAgg9,h,Result.andThen]
 have hpi:∀ (xs:Array Value) (o:Nat) (v:Value) (w:World),xs[o]?=some v→(part 3 xs o).run Tryz.prog w= .ok v w:=by
  intro xs o v w h
  simp[part,Tryz.isAgg3,h,Result.andThen]
 have es:∀ (d:Nat) (a:ByteArray) (w:World),(Op.equalIn (d+1) 9 (.string a) (.string a)).run Tryz.prog w= .ok true w:=fun d a w=>by
  have hb:(a == a)=true:=by
   cases a with|mk x=>
   show(x == x)=true
   simp
  simp[Op.equalIn,go_sem,hb]
 have ei:∀ (d:Nat) (n:Int) (w:World),(Op.equalIn (d+1) 3 (.int .i64 n) (.int .i64 n)).run Tryz.prog w= .ok true w:=fun d n w=>by simp[Op.equalIn,go_sem]
 have es9:=es 9998
 have ei9:=ei 9998
 rw[show(10000:Nat)=9999+1 from rfl,run_equalIn_struct w 9999 _ _ _ (by kernel_rfl) (by kernel_rfl)]
 have hf:(Tryz.prog.fieldsOf 74).toList=_:=congrArg Array.toList (by unfold Program.fieldsOf;rw[Tryz.underlying74])
 rw[hf]
 clear hf
 simp only[Op.eqFields,Sem.run_bind,Sem.run_ite,Sem.run_pure]
 simp[hp,hpi,es9,ei9,Result.andThen]
theorem rdI_drewN {w:World} {x:Value} {l:List Int} (h:RdI w x l) (k:Nat):RdI (w.drewN k) x l:=h
theorem iD (w:World) (k:Nat):Below w.heap.size w (w.drewN k):=⟨rfl,rfl,rfl,Nat.le_refl _,fun _ _=>rfl⟩
theorem leqV_refl (a:List Int):leqV a a:=⟨rfl,fun i _ _=>Int.le_refl _⟩
set_option maxHeartbeats 1000000 in
theorem rsame_any {w:World} {x y:Value} {a:List Int} (hx:RdI w x a) (hy:RdI w y a) (hl:a.length≤1000000):
 Calls Tryz.prog 64 #[x,y] w fun e w'=>e= .returned (.bool true)∧Below w.heap.size w w':=by
 have h1:=leq_any hx hy (leqV_refl a) hl
 have h2:∀ k,Calls Tryz.prog 36 #[y,x] (w.drewN k) fun e w'=>e= .returned (.bool true)∧∃ k2,w'=(w.drewN k).drewN k2:=fun k=>leq_any (rdI_drewN hy k) (rdI_drewN hx k) (leqV_refl a) hl
 obtain⟨xa,xc,rfl,-⟩:=hx
 obtain⟨ya,yc,rfl,-⟩:=hy
 obtain⟨n,hn⟩:∃ n,a.length=n:=⟨_,rfl⟩
 rw[hn]at h1 h2 ⊢
 clear hn hl
 go_enter Tryz.func64,Tryz.ntmps64
 go_wp2_with (first
  |(go_at_call 36;with_reducible refine(h2 k).mono ?_;rintro e v2 ⟨rfl,k2,hk2⟩;have hbk:Below (w.drewN k).heap.size (w.drewN k) v2:=(by rw[hk2];exact iD _ _);have HK:=aB hbk;clear hk2 hbk)
  |(go_at_call 36;go_loud (with_reducible refine h1.mono ?_);rintro e v1 ⟨rfl,k,rfl⟩;have HJ:=aB (iD w k)))
 go_ret
 exact⟨rfl,HJ.out.trans (HK.out.mono HJ.out.size)⟩
structure Sm2 (w w':World) (u0 u1 u2 u3 u4 v0 v1 v2 v3 v4:Value):Prop where
 a0:w'.cell? ⟨w.heap.size,0,none⟩=some u0
 a1:w'.cell? ⟨w.heap.size,1,none⟩=some u1
 a2:w'.cell? ⟨w.heap.size,2,none⟩=some u2
 a3:w'.cell? ⟨w.heap.size,3,none⟩=some u3
 a4:w'.cell? ⟨w.heap.size,4,none⟩=some u4
 b0:w'.cell? ⟨w.heap.size+1,0,none⟩=some v0
 b1:w'.cell? ⟨w.heap.size+1,1,none⟩=some v1
 b2:w'.cell? ⟨w.heap.size+1,2,none⟩=some v2
 b3:w'.cell? ⟨w.heap.size+1,3,none⟩=some v3
 b4:w'.cell? ⟨w.heap.size+1,4,none⟩=some v4
 bel:Below w.heap.size w w'
 sz:w.heap.size+2≤w'.heap.size
theorem Sm2.below {w w' w'':World} {u0 u1 u2 u3 u4 v0 v1 v2 v3 v4:Value} (h:Sm2 w w' u0 u1 u2 u3 u4 v0 v1 v2 v3 v4) (hb:Below w'.heap.size w' w''):Sm2 w w'' u0 u1 u2 u3 u4 v0 v1 v2 v3 v4:=
 have l0:w.heap.size<w'.heap.size:=by have:=h.sz;omega
 have l1:w.heap.size+1<w'.heap.size:=by have:=h.sz;omega
 ⟨(hb.cell (p:=⟨w.heap.size,0,none⟩) l0).trans h.a0,(hb.cell (p:=⟨w.heap.size,1,none⟩) l0).trans h.a1,(hb.cell (p:=⟨w.heap.size,2,none⟩) l0).trans h.a2,(hb.cell (p:=⟨w.heap.size,3,none⟩) l0).trans h.a3,(hb.cell (p:=⟨w.heap.size,4,none⟩) l0).trans h.a4,
  (hb.cell (p:=⟨w.heap.size+1,0,none⟩) l1).trans h.b0,(hb.cell (p:=⟨w.heap.size+1,1,none⟩) l1).trans h.b1,(hb.cell (p:=⟨w.heap.size+1,2,none⟩) l1).trans h.b2,(hb.cell (p:=⟨w.heap.size+1,3,none⟩) l1).trans h.b3,(hb.cell (p:=⟨w.heap.size+1,4,none⟩) l1).trans h.b4,
  h.bel.trans (hb.mono h.bel.size),Nat.le_trans h.sz hb.size⟩
theorem Sm2.drewN {w w':World} {u0 u1 u2 u3 u4 v0 v1 v2 v3 v4:Value} (h:Sm2 w w' u0 u1 u2 u3 u4 v0 v1 v2 v3 v4) (n:Nat):Sm2 w (w'.drewN n) u0 u1 u2 u3 u4 v0 v1 v2 v3 v4:=h.below (iD _ n)
set_option maxRecDepth 100000 in
set_option maxHeartbeats 4000000 in
theorem msame_any {w:World} {x y:Value} {s:PS} (hx:StV w x s) (hy:StV w y s) (l1:s.fs.length≤1000000) (l2:s.fl.length≤1000000) (l3:s.ns.length≤1000000):
 Calls Tryz.prog 21 #[x,y] w fun e w'=>e= .returned (.bool true)∧Below w.heap.size w w':=by
 obtain⟨xf,xl,xn,rfl,x1,x2,x3⟩:=hx
 obtain⟨yf,yl,yn,rfl,y1,y2,y3⟩:=hy
 obtain⟨fa,fc,rfl,_,_⟩:=x1.form
 obtain⟨ga,gc,rfl,_,_⟩:=y1.form
 obtain⟨la,lc,rfl,_,_⟩:=x2.form
 obtain⟨ka,kc',rfl,_,_⟩:=y2.form
 obtain⟨na,nc,rfl,_,_⟩:=x3.form
 obtain⟨ma,mc,rfl,_,_⟩:=y3.form
 have hSM:∀ w',Below w.heap.size w w'→Calls Tryz.prog 64 #[.slice la s.fl.length lc,.slice ka s.fl.length kc'] w' fun e w''=>e= .returned (.bool true)∧Below w'.heap.size w' w'':=fun w' hb=>rsame_any (jS (x2.below hb)) (jS (y2.below hb)) l2
 obtain⟨fn,hfn⟩:∃ n,s.fs.length=n:=⟨_,rfl⟩
 obtain⟨ln,hln⟩:∃ n,s.fl.length=n:=⟨_,rfl⟩
 obtain⟨nn,hnn⟩:∃ n,s.ns.length=n:=⟨_,rfl⟩
 rw[hfn]at x1 y1 l1 ⊢
 rw[hln]at hSM ⊢
 rw[hnn]at x3 y3 l3 ⊢
 have HF:=aB (aA x1 (aA y1 hfn))
 have HN:=aB (aA x3 (aA y3 hnn))
 have HSM:=aB hSM
 have heq:=meqfi
 have hen:=meqnt
 clear x1 x2 x3 y1 y2 y3 hSM hfn hln hnn l2
 have t0:((fn:Int) != (fn:Int))=false:=by simp
 have t1:((nn:Int) != (nn:Int))=false:=by simp
 have t2:((s.next:Int) != s.next)=false:=by simp
 have t3:((s.log:Int) != s.log)=false:=by simp
 obtain⟨w1,hw1⟩:∃ w1,w.alloc (.cells #[.slice fa fn fc,.int .i64 s.next,.int .i64 s.log,.slice la ln lc,.slice na nn nc] 35)=w1:=⟨_,rfl⟩
 obtain⟨w2,hw2⟩:∃ w2,w1.alloc (.cells #[.slice ga fn gc,.int .i64 s.next,.int .i64 s.log,.slice ka ln kc',.slice ma nn mc] 35)=w2:=⟨_,rfl⟩
 have h2:Sm2 w w2 (.slice fa fn fc) (.int .i64 s.next) (.int .i64 s.log) (.slice la ln lc) (.slice na nn nc) (.slice ga fn gc) (.int .i64 s.next) (.int .i64 s.log) (.slice ka ln kc') (.slice ma nn mc):=by
  rw[← hw2,←hw1]
  refine⟨?_,?_,?_,?_,?_,?_,?_,?_,?_,?_,((Below.refl _ _).alloc (Nat.le_refl _) _).alloc (by simp) _,by simp⟩
  all_goals simp[go_sem]
 have H2:=aB h2
 have hz1:w1.heap.size=w.heap.size+1:=by rw[← hw1];simp
 clear h2
 have a0:=H2.out.a0
 have a1:=H2.out.a1
 have a2:=H2.out.a2
 have a3:=H2.out.a3
 have a4:=H2.out.a4
 have b0:=H2.out.b0
 have b1:=H2.out.b1
 have b2:=H2.out.b2
 have b3:=H2.out.b3
 have b4:=H2.out.b4
 go_enter Tryz.func21,Tryz.ntmps21
 go_wp2_with (go_at_call 64;refine(HSM.out _ H2.out.bel).mono ?_;rintro e w3 ⟨rfl,hb3⟩;have H3:=aB (H2.out.below hb3);have p4:=H3.out.a4;have q4:=H3.out.b4;clear hb3)
 clear a0 a1 a2 a3 a4 b0 b1 b2 b3 b4 p4 q4
 go_loopw [5] (fun y wr=>∃ i:Nat,i≤fn∧y= .int .i64 (i:Int)∧Sm2 w wr (.slice fa fn fc) (.int .i64 s.next) (.int .i64 s.log) (.slice la ln lc) (.slice na nn nc) (.slice ga fn gc) (.int .i64 s.next) (.int .i64 s.log) (.slice ka ln kc') (.slice ma nn mc)) (fun y _=>fn - (intOf y).toNat)
 case atStart=>exact⟨0,by omega,rfl,H3.out⟩
 case round=>
  obtain⟨i,hi,rfl,hsm⟩:=hrel
  have HS:=aB hsm
  have a0:=hsm.a0
  have b0:=hsm.b0
  have a4:=hsm.a4
  have b4:=hsm.b4
  clear hsm
  by_cases hlt:i<fn
  · have hil:i<s.fs.length:=by rw[HF.out.2.2];exact hlt
    obtain⟨b,off,rfl,hbl,c0,c1,c2,c3,c4,c5⟩:=eD (HF.out.1.below HS.out.bel) hil
    obtain⟨d,doff,rfl,hdl,d0,d1,d2,d3,d4,d5⟩:=eD (HF.out.2.1.below HS.out.bel) hil
    obtain⟨u,hu⟩:∃ u,s.fs[i]=u:=⟨_,rfl⟩
    rw[hu]at c0 c1 c2 c3 c4 c5 d0 d1 d2 d3 d4 d5
    have z0:(i:Int)<(fn:Int):=by omega
    have z1:(0:Int)≤(i:Int):=by omega
    clear hu
    go_wp2
    go_quiet (fail)
    go_wp2
    go_roundw
    case rel=>exact⟨i+1,by omega,by go_num,HS.out.drewN _⟩
    case measure=>simp[intOf];omega
  · have z0:¬ (i:Int)<(fn:Int):=by omega
    go_wp2
    clear a0 b0 a4 b4
    go_loopw [6] (fun y wr=>∃ j:Nat,j≤nn∧y= .int .i64 (j:Int)∧Sm2 w wr (.slice fa fn fc) (.int .i64 s.next) (.int .i64 s.log) (.slice la ln lc) (.slice na nn nc) (.slice ga fn gc) (.int .i64 s.next) (.int .i64 s.log) (.slice ka ln kc') (.slice ma nn mc)) (fun y _=>nn - (intOf y).toNat)
    case atStart=>exact⟨0,by omega,rfl,HS.out⟩
    case round=>
     obtain⟨j,hj,rfl,hsm⟩:=hrel
     have HK:=aB hsm
     have a4:=hsm.a4
     have b4:=hsm.b4
     clear hsm
     by_cases hlj:j<nn
     · have hjl:j<s.ns.length:=by rw[HN.out.2.2];exact hlj
       obtain⟨b,off,rfl,hbl,c0,c1⟩:=cY (HN.out.1.below HK.out.bel) hjl
       obtain⟨d,doff,rfl,hdl,d0,d1⟩:=cY (HN.out.2.1.below HK.out.bel) hjl
       obtain⟨u,hu⟩:∃ u,s.ns[j]=u:=⟨_,rfl⟩
       rw[hu]at c0 c1 d0 d1
       have y0:(j:Int)<(nn:Int):=by omega
       have y1:(0:Int)≤(j:Int):=by omega
       clear hu
       go_wp2
       go_quiet (fail)
       go_wp2
       go_roundw
       case rel=>exact⟨j+1,by omega,by go_num,HK.out.drewN _⟩
       case measure=>simp[intOf];omega
     · have y0:¬ (j:Int)<(nn:Int):=by omega
       go_wp2
       go_ret
       exact⟨rfl,HK.out.bel⟩
end
section
open Go.RowKit
variable {w w' w0:World} {H:Nat→Prop} {B B' sb ob:Nat} {s t:PS} {e:PE} {c:Int}
def JSt (B:Nat) (w:World) (sb:Nat) (s:PS):Prop:=∃ fa fc la lc na nc,eH w sb (.slice fa s.fs.length fc) (.int .i64 s.next) (.int .i64 s.log) (.slice la s.fl.length lc) (.slice na s.ns.length nc)∧
 bE eFi w B (.slice fa s.fs.length fc) s.fs∧bE eVec w B (.slice la s.fl.length lc) s.fl∧bE eNt w B (.slice na s.ns.length nc) s.ns∧
 (∀ q,(Value.slice fa s.fs.length fc).ownBlock=some q→q≠sb)∧(∀ q,(Value.slice la s.fl.length lc).ownBlock=some q→q≠sb)∧(∀ q,(Value.slice na s.ns.length nc).ownBlock=some q→q≠sb)
theorem ed_at {w:World} {a:Option Addr} {len cap i:Nat} {L:List EdR} (h:EdsIn w a len cap L) (hi:i<len):∃ (b off:Nat) (o:EdR) (e:PE),a=some ⟨b,off,none⟩∧b<w.heap.size∧EdV w (.agg #[o.av,o.rv,.int .i64 o.lg,o.lv,o.nv]) e∧e.wf∧
 w.cell? ⟨b,off+i*5,none⟩=some o.av∧w.cell? ⟨b,off+i*5+1,none⟩=some o.rv∧w.cell? ⟨b,off+i*5+2,none⟩=some (.int .i64 o.lg)∧w.cell? ⟨b,off+i*5+3,none⟩=some o.lv∧w.cell? ⟨b,off+i*5+4,none⟩=some o.nv:=by
 obtain⟨hl,hr,hok⟩:=h
 have hi':i<L.length:=by omega
 obtain⟨b,off,ha,hb,_,_,_,hc⟩:=hr.at_ hi'
 obtain⟨e,he,hw⟩:=hok _ (List.getElem_mem hi')
 exact⟨b,off,L[i],e,ha,hb,he,hw,hc 0 _ rfl,hc 1 _ rfl,hc 2 _ rfl,hc 3 _ rfl,hc 4 _ rfl⟩
structure EdC (w:World) (b off:Nat) (o:EdR):Prop where
 c0:w.cell? ⟨b,off,none⟩=some o.av
 c1:w.cell? ⟨b,off+1,none⟩=some o.rv
 c2:w.cell? ⟨b,off+2,none⟩=some (.int .i64 o.lg)
 c3:w.cell? ⟨b,off+3,none⟩=some o.lv
 c4:w.cell? ⟨b,off+4,none⟩=some o.nv
theorem EdC.below {b off:Nat} {o:EdR} (h:EdC w b off o) (hb:Below w.heap.size w w'):EdC w' b off o:=
 have l:=World.block_lt_of_cell? _ _ h.c0
 ⟨(hb.cell (p:=⟨b,off,none⟩) l).trans h.c0,(hb.cell (p:=⟨b,off+1,none⟩) l).trans h.c1,(hb.cell (p:=⟨b,off+2,none⟩) l).trans h.c2,(hb.cell (p:=⟨b,off+3,none⟩) l).trans h.c3,(hb.cell (p:=⟨b,off+4,none⟩) l).trans h.c4⟩
end
section
open Go.RowKit
variable {F G:Nat→Prop} {w w':World} {db mb:Nat} {D D':Dk}
theorem twin_any (h:aF F w db mb D):Calls Tryz.prog 28 #[.pointer (some ⟨db,0,none⟩)] w fun e w'=>e= .returned (.pointer (some ⟨w.heap.size,0,none⟩))∧
 aF (fun q=>F q∨aT w.heap.size (w.heap.size+1) q) w' w.heap.size (w.heap.size+1) D∧aF (fun q=>F q∨aT w.heap.size (w.heap.size+1) q) w' db mb D∧Below w.heap.size w w'∧w'.heap.size=w.heap.size+2:=by
 obtain⟨c3,k3,z3⟩:=h.c3
 have c0:=h.c0
 have c1:=h.c1
 have c2:=h.c2
 have c4:=h.c4
 obtain⟨o3,rfl⟩:∃ o,c3= .pointer o:=by
  revert z3
  cases D.fuse with
  |none=>exact fun e=>⟨_,e⟩
  |some z=>exact fun⟨fb,v,e,_⟩=>⟨_,e⟩
 obtain⟨es,clock,e1,e2,e3⟩:=h.m
 have hltm:=h.m.lt
 have kA:∀ x,(w.alloc x).cell? ⟨db,0,none⟩=some (.map (some mb)):=fun x=>(((Below.refl _ w).alloc (Nat.le_refl _) x).cell (p:=⟨db,0,none⟩) h.ltd).trans c0
 have hM:∀ x,(w.alloc x).heap[mb]?=some (.map es clock):=fun x=>(Below.heap_alloc _ _ mb hltm).trans e1
 have H:=aB (aA h (aA e2 (aA e3 z3)))
 clear h e1 e2 e3 hltm z3
 go_enter Tryz.func28,Tryz.ntmps28
 go_wp2_with (go_at_call 139;refine(AnyW.maps_Clone Tryz.gl_clone mb es clock _ (hM _)).mono ?_;rintro e w2 ⟨rfl,rfl⟩)
 go_ret
 have hb:Below w.heap.size w ((w.alloc (.cells #[.map (some (w.heap.size+1)),.bool D.on,.int .i64 D.quota,.pointer o3,.int .i64 (D.acts:Int)] 83)).alloc (.map es clock)):=((Below.refl _ _).alloc (Nat.le_refl _) _).alloc (by simp) _
 have hG:∀ q,(F q∨aT w.heap.size (w.heap.size+1) q)→q<((w.alloc (.cells #[.map (some (w.heap.size+1)),.bool D.on,.int .i64 D.quota,.pointer o3,.int .i64 (D.acts:Int)] 83)).alloc (.map es clock)).heap.size:=by
  rintro q (hq|rfl|rfl)
  · have:=H.out.1.lt q hq;simp;omega
  · simp;omega
  · simp
 have hm:aF (fun q=>F q∨aT w.heap.size (w.heap.size+1) q) ((w.alloc (.cells #[.map (some (w.heap.size+1)),.bool D.on,.int .i64 D.quota,.pointer o3,.int .i64 (D.acts:Int)] 83)).alloc (.map es clock)) db mb D:=
  H.out.1.more (fun q hq=> .inl hq) (fun q hq=>hq.imp id (fun h=>by rcases h with rfl|rfl<;>omega)) hG hb
 refine⟨rfl,⟨by simp[go_sem],by simp[go_sem],by simp[go_sem],⟨.pointer o3,by simp[go_sem],?_⟩,by simp[go_sem],⟨es,clock,?_,H.out.2.1,H.out.2.2.1⟩,fun j=>by simp[go_sem],H.out.1.ok,by omega,.inr (.inl rfl),.inr (.inr rfl),hG⟩,hm,hb,by simp⟩
 · obtain⟨p,hp,hz⟩:=hm.c3
   have e:=(hb.cell (p:=⟨db,3,none⟩) H.out.1.ltd).trans k3
   rw[e]at hp
   injection hp with hp
   subst hp
   exact hz
 · have:=heap_alloc_new (w.alloc (.cells #[.map (some (w.heap.size+1)),.bool D.on,.int .i64 D.quota,.pointer o3,.int .i64 (D.acts:Int)] 83)) (.map es clock)
   simpa using this
end
section
open Go.RowKit
variable {w w' w0:World} {F F' G G' H:Nat→Prop} {B db mb lb mp mm ob k c:Nat} {D D':Dk} {L L':Lg} {S:List (Nat×Fl)} {dir:ByteArray} {s s0 t:PS} {e:PE} {q seq q0 p:Int} {stuck:Bool} {v:Value} {R:List (Int×PE)} {bo:Option Fl}
theorem aF.only (h:aF F w db mb D) (hz:D.fuse=none):aF (aT db mb) w db mb D:=by
 obtain⟨x,hp,hf⟩:=h.c3
 rw[hz]at hf
 exact⟨h.c0,h.c1,h.c2,⟨x,hp,by rw[hz];exact hf⟩,h.c4,h.m,h.fz,h.ok,h.ne,.inl rfl,.inr rfl,fun q hq=>by rcases hq with rfl|rfl;exact h.lt _ h.fd;exact h.lt _ h.fm⟩
theorem c_twin (h:aF F w db mb D) (hz:D.fuse=none):Calls Tryz.prog 28 #[.pointer (some ⟨db,0,none⟩)] w fun e w'=>e= .returned (.pointer (some ⟨w.heap.size,0,none⟩))∧DS w.heap.size w w' (aT w.heap.size (w.heap.size+1)) w.heap.size (w.heap.size+1) D:=by
 refine(twin_any h).mono ?_
 rintro r w' ⟨rfl,h1,_,h3,h4⟩
 exact⟨rfl,h1.only hz,fun q hq=>by rcases hq with rfl|rfl<;>omega,h3,by omega⟩
noncomputable def kG (s:PS) (e:PE):PS:=if(aO s e).1=0 then(aO s e).2 else s
def MM (c:Nat) (B:Nat) (w0 w:World) (F:Nat→Prop) (db mb lb mp mm:Nat) (dir:ByteArray) (s:PS):Prop:=
 ∃ G D L S k bo s0 q0 R p,MS B w0 w F G db mb lb mp mm D L dir s p false∧Mn dir D L S k bo s0 q0 R s p∧Cn S k R p c
theorem MM.mono {c':Nat} (h:MM c B w0 w F db mb lb mp mm dir s) (hc:c≤c'):MM c' B w0 w F db mb lb mp mm dir s:=by
 obtain⟨G,D,L,S,k,bo,s0,q0,R,p,h1,h2,h3⟩:=h
 exact⟨G,D,L,S,k,bo,s0,q0,R,p,h1,h2,h3.mono hc⟩
theorem MM.stay (h:MM c B w0 w F db mb lb mp mm dir s) (hb:Below w.heap.size w w'):MM c B w0 w' F db mb lb mp mm dir s:=by
 obtain⟨G,D,L,S,k,bo,s0,q0,R,p,h1,h2,h3⟩:=h
 exact⟨G,D,L,S,k,bo,s0,q0,R,p,h1.stay hb,h2,h3⟩
theorem MM.b (h:MM c B w0 w F db mb lb mp mm dir s):Below B w0 w:=by
 obtain⟨G,D,L,S,k,bo,s0,q0,R,p,h1,h2,h3⟩:=h
 exact h1.ws.d.b
theorem MM.new (h:MM c B w0 w F db mb lb mp mm dir s):(∀ q,F q→B≤q)∧B≤mm∧(∀ q,F q→q<w.heap.size)∧mm<w.heap.size∧B≤w.heap.size:=by
 obtain⟨G,D,L,S,k,bo,s0,q0,R,p,h1,h2,h3⟩:=h
 exact⟨h1.newF,h1.new,h1.ltF,h1.lt,h1.ws.d.hz⟩
structure Mst (F F':Nat→Prop) (mm:Nat) (w w':World):Prop where
 t:Tn (fun q=>F q∨q=mm) w w'
 n:∀ q,F' q→F q∨w.heap.size≤q
theorem Mst.below (hb:Below w.heap.size w w'):Mst F F mm w w':=⟨Tn.ofBelow hb,fun _ e=> .inl e⟩
section
variable (hd:dG dir=true) (hd30:dir.size≤30)
include hd hd30
theorem mm_swap (h:MM c B w0 w F db mb lb mp mm dir s) (hc:c≤190):Calls Tryz.prog 16 #[.pointer (some ⟨mm,0,none⟩)] w fun r w'=>r= .returned (.int .i64 0)∧∃ F',MM (c+1) B w0 w' F' db mb lb mp mm dir s∧Mst F F' mm w w':=by
 obtain⟨G,D,L,S,k,bo,s0,q0,R,p,h1,h2,h3⟩:=h
 obtain⟨g1,g2,k',g3,g4⟩:=h2.swap hd hd30 h3 (by omega)
 refine(swap_any h1 h2.gs ⟨h2.p0,by have:=h3.p;omega⟩ hd30 g2).mono ?_
 rintro r w' ⟨rfl,F',G',hm,ht,hn,_⟩
 rw[g1]at hm
 exact⟨by rw[g1],F',⟨G',_,_,_,_,_,_,_,_,_,hm,g3,g4⟩,ht,hn⟩
theorem mm_commit {ev:Value} (h:MM c B w0 w F db mb lb mp mm dir s) (hc:c≤190) (hex:EdX (fun q=>F q∨q=mm) w ev e) (hw:lightW e<40000):Calls Tryz.prog 14 #[.pointer (some ⟨mm,0,none⟩),ev] w fun r w'=>r= .returned (.int .i64 (aO s e).1)∧∃ F',MM (c+2) B w0 w' F' db mb lb mp mm dir (kG s e)∧Mst F F' mm w w':=by
 obtain⟨G,D,L,S,k,bo,s0,q0,R,p,h1,h2,h3⟩:=h
 obtain⟨cc,t,hct⟩:∃ cc t,aO s e=(cc,t):=⟨_,_,rfl⟩
 have hlw:=hw
 unfold lightW lightN at hlw
 have hp:=h3.p
 have hp0:=h2.p0
 by_cases h0:cc=0
 · subst h0
   have hro:=fun(M:List KV) (hM:M.Perm (eR s.ns e.ns))=>rec_ok h2.gs hct hw hM ⟨hp0,by omega⟩
   have hcm:=fun(M:List KV) (hM:M.Perm (eR s.ns e.ns))=>h2.commit hd hd30 h3 hc (hro M hM).1 (by have:=(hro M hM).2;omega) (applyF_few hM hct)
   refine(commit_any h1 h2.gs ⟨hp0,by omega⟩ hd30 hex (by omega) (by omega) (by omega) (by omega) hct (fun M hM=>⟨(hro M hM).1.ok,?_⟩) rfl h2.o.on (fun _=>(h2.swap hd hd30 h3 (by omega)).2.1) (fun M hM=>⟨(hcm M hM).2.1,(hcm M hM).2.2.1⟩)).mono ?_
   · have h9:=(hro M hM).2
     unfold recL at h9
     rw[List.length_append]at h9
     omega
   · rintro r w' ⟨M,hM,hr,F',G',hx,ht,hn,_⟩
     obtain⟨g1,_,_,S',k',bo',s0',q0',R',g4,g5⟩:=hcm M hM
     rcases hx with⟨_,hx⟩|⟨hx,_⟩
     · refine⟨by rw[hr,g1,hct],F',?_,ht,hn⟩
       have:kG s e=t:=by unfold kG;rw[hct];simp
       rw[this]
       exact⟨G',_,_,S',k',bo',s0',q0',R',_,hx,g4,g5⟩
     · exact absurd g1 hx
 · refine(commit_no h1 h2.gs hex.ed (by omega) (by omega) (by omega) (by omega) hct h0).mono ?_
   rintro r w' ⟨rfl,hb⟩
   have:kG s e=s:=by unfold kG;rw[hct,if_neg h0]
   rw[this,hct]
   exact⟨rfl,F,⟨G,D,L,S,k,bo,s0,q0,R,p,h1.stay hb,h2,h3.mono (by omega)⟩,Mst.below hb⟩
theorem reopen (h2:Mn dir D L S k bo s0 q0 R s p) (h3:Cn S k R p c) (hc:c≤200) (hds:DS B w0 w F db mb D):Calls Tryz.prog 9 #[.pointer (some ⟨db,0,none⟩),.string dir] w (OpenG B w0 F w db mb dir D S s p):=by
 have hrs:=h2.o.rs h2.rst
 have hask:=hrs.asked (snap_nm hd hd30)
 have hk:=h3.k
 have hs:=h3.s
 have hr:=h3.r
 have hp:=h3.p
 have hp2:=h2.q0p
 rcases h2.base with⟨hb0,rfl,rfl⟩|⟨hg0,hn0,hq0,hb0⟩
 · refine mopen_any hds hd hd30 h2.o.fz (.inl h2.qn) h2.o.on h2.o.lg h2.o.run.rise h2.o.run.good h2.syn (by omega) (by omega) (b:=⟨#[]⟩) (c:=22) ?_ (.inl rfl) (.inl ⟨rfl,rfl,rfl⟩) h2.all (by omega) h2.rok h2.ld
   unfold Dk.read
   rw[hask,if_neg (by simp),hrs.getS,hb0]
   rfl
 · refine mopen_any hds hd hd30 h2.o.fz (.inl h2.qn) h2.o.on h2.o.lg h2.o.run.rise h2.o.run.good h2.syn (by omega) (by omega) (b:=cT s0 q0) (c:=0) ?_ (.inr ⟨rfl,?_⟩) (.inr ⟨hg0,hn0,hq0,by omega,rfl⟩) h2.all (by omega) h2.rok h2.ld
   · unfold Dk.read
     rw[hask,if_neg (by simp),hrs.getS,hb0]
   · unfold cT
     rw[bQ,List.length_append,lD]
     omega
omit hd hd30 in
theorem mn_start:Mn dir (dE (aY (dir++tM) [] none) (-1) none 0) (opened (dir++tM) 4096 []) [] 0 none s01 0 [] s01 0:=by
 refine⟨⟨rfl,.inl (show(-1:Int)<0 by decide),rfl,rfl,run_opened cL.nil (fun p hp=>by simp at hp) (fun p hp=>by simp at hp)⟩,(by show(-1:Int)<0;decide),dV.nil,fun x hx=>by simp at hx,(by show(0:Int)≤_;decide),.inl ⟨rfl,rfl,rfl⟩,rfl,fun x hx=>by simp at hx,⟨rfl,rfl⟩,good01,by decide,by decide,by decide⟩
theorem mm_new (h:DS B w0 w F db mb (dE [] (-1) none 0)):Calls Tryz.prog 9 #[.pointer (some ⟨db,0,none⟩),.string dir] w fun r w'=>∃ F' lb mp mm,r= .returned (.tuple #[.pointer (some ⟨mm,0,none⟩),.int .i64 0])∧MM 0 B w0 w' F' db mb lb mp mm dir s01:=by
 refine(reopen hd hd30 mn_start ⟨by simp,by simp[aP],by simp,by decide,by omega⟩ (c:=0) (by decide) (show DS B w0 w F db mb (dE (aY (dir++tM) [] none) (-1) none 0) from h)).mono ?_
 rintro r w' ⟨F',G,lb,mp,mm,rfl,hm,_⟩
 exact⟨F',lb,mp,mm,rfl,G,_,_,[],0,none,s01,0,[],0,hm,mn_start,⟨by simp,by simp[aP],by simp,by decide,by omega⟩⟩
end
def WasAt (F:Nat→Prop) (mm:Nat) (w:World) (ob:Nat) (x0 x3 x4:Value) (s:PS):Prop:=
 eH w ob x0 (.int .i64 s.next) (.int .i64 s.log) x3 x4∧StX (fun q=>F q∨q=mm) w (.agg #[x0,.int .i64 s.next,.int .i64 s.log,x3,x4]) s∧¬ F ob∧¬ ob=mm
variable {x0 x3 x4:Value}
theorem WasAt.step (h:WasAt F mm w ob x0 x3 x4 s) (g:Mst F F' mm w w'):WasAt F' mm w' ob x0 x3 x4 s:=by
 obtain⟨h1,h2,h3,h4⟩:=h
 have:=h1.lt
 exact⟨h1.tnH g.t (fun e=>e.elim h3 h4),h2.step g.t (fun q _ e=>e) (fun q e=>e.elim (fun e=>(g.n q e).imp .inl id) (fun e=> .inl (.inr e))),fun e=>(g.n ob e).elim h3 (fun e=>by omega),h4⟩
end
end Go.Proofs.YtpfibkgmfapnjaaGreatDoor
