/- Lease: a vector is read from bytes. -/
import Derived.Test.YtpfibkgmfapnjaaGreatDoorS31
set_option linter.unusedSimpArgs false
set_option linter.unusedVariables false
namespace Go.Proofs.YtpfibkgmfapnjaaGreatDoor
section
open Go.RowKit
variable {w w' w0 w1 w2 w3 w4:World} {mb lb B:Nat} {ob:Option Nat} {last now:Int}
theorem bytes_split (s:ByteArray) (n:Nat):s.data.toList=(s.extract 0 n).data.toList++(s.extract n s.size).data.toList:=by
 simp only[ByteArray.data_extract,Array.toList_extract,List.extract_eq_take_drop,List.drop_zero,Nat.sub_zero]
 rw[List.take_of_length_le (l:=s.data.toList.drop n) (by rw[List.length_drop];exact Nat.le_refl _),List.take_append_drop]
theorem get6_any (s:ByteArray) (hs:s.size=6) (w:World):Calls Tryz.prog 335 #[.string s] w fun e w'=>e= .returned (.tuple #[.int .i64 (Rw.beV s.data.toList:Int),.int .i64 0])∧w=w':=by
 refine(get_any s w (by unfold maxLen;omega)).mono ?_
 rintro e w' ⟨rfl,rfl⟩
 have hl:s.data.toList.length=6:=hs
 refine⟨?_,rfl⟩
 unfold iF getOk
 rw[hl]
 rfl
theorem enc6_beV {l:List UInt8} (h:l.length=6):gU (Rw.beV l:Int)=l:=by
 unfold gU
 rw[Int.toNat_natCast,←h]
 exact beF_beV l
theorem aN {a b:Nat} {u v:Value} (h:w.cell? ⟨b,0,none⟩=some u) (hab:a≠b):(w.setCell ⟨a,0,none⟩ v).cell? ⟨b,0,none⟩=some u:=by
 rw[World.cell?_setCell_other _ _ _ _ (by intro e;injection e with e1 _;exact hab e1)]
 exact h
theorem blocks3 {a b c:Nat} {va vb vc ua ub uc:Value} (ha:w.cell? ⟨a,0,none⟩=some ua) (hb:w.cell? ⟨b,0,none⟩=some ub) (hc:w.cell? ⟨c,0,none⟩=some uc) (hab:a≠b) (hac:a≠c) (hbc:b≠c)
 (hw:((w.setCell ⟨a,0,none⟩ va).setCell ⟨b,0,none⟩ vb).setCell ⟨c,0,none⟩ vc=w'):w'.cell? ⟨a,0,none⟩=some va∧w'.cell? ⟨b,0,none⟩=some vb∧w'.cell? ⟨c,0,none⟩=some vc:=by
 subst hw
 have k0:=World.cell?_setCell_same w ⟨a,0,none⟩ va ha
 have k1:=aN (v:=va) hb hab
 have k2:=aN (v:=vb) (aN (v:=va) hc hac) hbc
 exact⟨aN (aN k0 hab.symm) hac.symm,aN (World.cell?_setCell_same _ _ _ k1) hbc.symm,World.cell?_setCell_same _ _ _ k2⟩
def GotV (s:ByteArray) (w:World) (e:Ending) (w':World):Prop:=
 (∃ code:Int,code≠0∧e= .returned (.tuple #[.slice none 0 0,.int .i64 0,.int .i64 code])∧NoVec s)∨
 ∃ a c vs r,e= .returned (.tuple #[.slice a vs.length c,.int .i64 ((fG vs).length:Int),.int .i64 0])∧bK vs=true∧s.data.toList=fG vs++r∧bE eVec w' w.heap.size (.slice a vs.length c) vs
def onlyN (Q:Exit→Act→World→Prop):Exit→Act→World→Prop:=fun e a w=>match e with| .normal=>Q .normal a w|_=>False
theorem onlyN_of (Q:Exit→Act→World→Prop):∀ e a w,onlyN Q e a w→Q e a w:=fun e a w h=>by
 cases e<;>first|exact h|exact h.elim
abbrev defG (z:Nat):List Deferred:=[{target:= .fn (.func 338) #[.pointer (some ⟨z,0,none⟩),.pointer (some ⟨z+1,0,none⟩),.pointer (some ⟨z+1+1,0,none⟩)],args:= #[]}]
theorem fY {s:ByteArray} (hno:NoVec s) {W:World} {z:Nat} {tmps:Array Value} {code:Int} (hc:code≠0) (hz:z=w.heap.size) (h2:tmps[2]?=some (.pointer (some ⟨z,0,none⟩))) (h3:tmps[3]?=some (.pointer (some ⟨z+1,0,none⟩))) (h4:tmps[4]?=some (.pointer (some ⟨z+1+1,0,none⟩)))
 {v0 v1 v2:Value} (q0:W.cell? ⟨z,0,none⟩=some v0) (q1:W.cell? ⟨z+1,0,none⟩=some v1) (q2:W.cell? ⟨z+1+1,0,none⟩=some v2) (f0:W.frozen? ⟨z,0,none⟩=false) (f1:W.frozen? ⟨z+1,0,none⟩=false) (f2:W.frozen? ⟨z+1+1,0,none⟩=false) (hb:Below w.heap.size w W):
 bodyPostD Tryz.prog Tryz.f296 (fun e w'=>GotV s w e w'∧Below w.heap.size w w') (.panic [{v:=errV code,recovered:=false}]) {tmps:=tmps,defers:=defG z} W:=by
 refine leaves_cons (f:=338) (args:= #[.pointer (some ⟨z,0,none⟩),.pointer (some ⟨z+1,0,none⟩),.pointer (some ⟨z+1+1,0,none⟩)]) (by simp) (by simp[go_sem]) ?_
 refine(getv_catch _ _ _ _ _ f0 f1 f2 ⟨_,q0⟩ ⟨_,q1⟩ ⟨_,q2⟩ (by omega) (by omega) (by omega)).mono ?_
 rintro e u' w'' ⟨rfl,rfl,hw''⟩
 obtain⟨k0,k1,k2⟩:=blocks3 q0 q1 q2 (by omega) (by omega) (by omega) hw''.symm
 simp[Leaves,settle,results,Tryz.results296,go_sem,k0,k1,k2,h2,h3,h4]
 refine⟨.inl ⟨code,hc,rfl,hno⟩,?_⟩
 rw[hw'']
 exact((hb.setCell (by show _≤z;omega) _).setCell (by show _≤z+1;omega) _).setCell (by show _≤z+1+1;omega) _
set_option maxRecDepth 100000 in
set_option maxHeartbeats 4000000 in
theorem getv_any (s:ByteArray) (w:World) (hs:s.size≤9223372036854775807):Calls Tryz.prog 296 #[.string s] w fun e w'=>GotV s w e w'∧Below w.heap.size w w':=by
 have hmf:∀ (fn:Fn) (first cap:Array Value) (w:World),(Instr.makeFunc fn first cap).run Tryz.prog w= .ok (.func fn first cap) w:=fun _ _ _ _=>rfl
 obtain⟨W1,hW1⟩:∃ W1,(((w.alloc (.cells #[.slice none 0 0] 32)).alloc (.cells #[.int .i64 0] 3)).alloc (.cells #[.int .i64 0] 27)).alloc (.cells #[.string s] 9)=W1:=⟨_,rfl⟩
 have q0:W1.cell? ⟨w.heap.size,0,none⟩=some (.slice none 0 0):=by rw[← hW1];simp[go_sem]
 have q1:W1.cell? ⟨w.heap.size+1,0,none⟩=some (.int .i64 0):=by rw[← hW1];simp[go_sem]
 have q2:W1.cell? ⟨w.heap.size+1+1,0,none⟩=some (.int .i64 0):=by rw[← hW1];simp[go_sem]
 have q3:W1.cell? ⟨w.heap.size+1+1+1,0,none⟩=some (.string s):=by rw[← hW1];simp[go_sem]
 have f0:W1.frozen? ⟨w.heap.size,0,none⟩=false:=by rw[← hW1];simp[go_sem]
 have f1:W1.frozen? ⟨w.heap.size+1,0,none⟩=false:=by rw[← hW1];simp[go_sem]
 have f2:W1.frozen? ⟨w.heap.size+1+1,0,none⟩=false:=by rw[← hW1];simp[go_sem]
 have f3:W1.frozen? ⟨w.heap.size+1+1+1,0,none⟩=false:=by rw[← hW1];simp[go_sem]
 have b1:Below w.heap.size w W1:=by rw[← hW1];exact((((Below.refl _ _).alloc (Nat.le_refl _) _).alloc (by simp) _).alloc (by simp;omega) _).alloc (by simp;omega) _
 have hz:W1.heap.size=w.heap.size+4:=by rw[← hW1];simp
 have H1:=aB (aA b1 hz)
 clear b1 hz
 by_cases h0:s.size<1
 · have hT:=take_short (n:=1) (k:=1) rfl q3 h0 (by omega)
   have HNO:=aB (nov_short h0)
   go_enter_defers Tryz.func296,Tryz.ntmps296
   go_wp2_with fail
   refine hT.mono ?_
   rintro e w2 ⟨rfl,rfl⟩
   go_wp2
   exact fY HNO.out (by omega) rfl rfl rfl rfl q0 q1 q2 f0 f1 f2 H1.out.1
 · have hT:=take_ok (n:=1) (k:=1) rfl q3 f3 (by omega) hs
   have htl:s.data.toList.length=s.size:=rfl
   obtain⟨c0,hc0⟩:∃ c0,s.data.toList[0]'(by omega)=c0:=⟨_,rfl⟩
   obtain⟨s1,hs1⟩:∃ s1,s.extract 0 1=s1:=⟨_,rfl⟩
   obtain⟨r0,hr0⟩:∃ r0,s.extract 1 s.size=r0:=⟨_,rfl⟩
   have hsp:s.data.toList=c0::r0.data.toList:=by
    have h5:=bytes_split s 1
    rw[hs1,hr0]at h5
    have h6:s1.data.toList=[c0]:=by
     subst hs1 hc0
     simp only[ByteArray.data_extract,Array.toList_extract,List.extract_eq_take_drop,List.drop_zero,Nat.sub_zero]
     rw[List.take_succ_eq_append_getElem (i:=0) (by omega)]
     rfl
    rw[h6]at h5
    exact h5
   rw[hs1,hr0]at hT
   obtain⟨W2,hW2⟩:∃ W2,W1.setCell ⟨w.heap.size+1+1+1,0,none⟩ (.string r0)=W2:=⟨_,rfl⟩
   rw[hW2]at hT
   have p0:W2.cell? ⟨w.heap.size,0,none⟩=some (.slice none 0 0):=by rw[← hW2];exact aN q0 (by omega)
   have p1:W2.cell? ⟨w.heap.size+1,0,none⟩=some (.int .i64 0):=by rw[← hW2];exact aN q1 (by omega)
   have p2:W2.cell? ⟨w.heap.size+1+1,0,none⟩=some (.int .i64 0):=by rw[← hW2];exact aN q2 (by omega)
   have p3:W2.cell? ⟨w.heap.size+1+1+1,0,none⟩=some (.string r0):=by rw[← hW2];exact World.cell?_setCell_same _ _ _ q3
   have g0:W2.frozen? ⟨w.heap.size,0,none⟩=false:=by rw[← hW2];simp[go_sem,f0]
   have g1:W2.frozen? ⟨w.heap.size+1,0,none⟩=false:=by rw[← hW2];simp[go_sem,f1]
   have g2:W2.frozen? ⟨w.heap.size+1+1,0,none⟩=false:=by rw[← hW2];simp[go_sem,f2]
   have g3:W2.frozen? ⟨w.heap.size+1+1+1,0,none⟩=false:=by rw[← hW2];simp[go_sem,f3]
   have b2:Below w.heap.size w W2:=by rw[← hW2];exact H1.out.1.setCell (by show _≤w.heap.size+1+1+1;omega) _
   have z2:W2.heap.size=w.heap.size+4:=by rw[← hW2];simpa using H1.out.2
   have hs1z:s1.size=1:=by rw[← hs1,ByteArray.size_extract];omega
   have hs1c:s1[0]'(by omega)=c0:=by subst hs1;rw[ByteArray.getElem_extract];exact hc0
   have hc8:=c0.toNat_lt
   have hrz:r0.size≤9223372036854775807:=by rw[← hr0,ByteArray.size_extract];omega
   have HR:=aB (aA hsp (aA b2 (aA z2 hrz)))
   have HS:=aB hs
   clear hsp b2 z2 hrz hr0 hs1 hc0 htl q0 q1 q2 q3 f0 f1 f2 f3 hs
   by_cases k1:c0.toNat<1
   · have t1:(c0.toNat:Int)<1:=by omega
     have HNO:=aB (nov_head HR.out.1 (.inl k1))
     go_enter_defers Tryz.func296,Tryz.ntmps296
     go_wp2_with (go_at_call 339;go_loud (refine hT.mono ?_);rintro e w2 ⟨rfl,rfl⟩)
     exact fY HNO.out (by omega) rfl rfl rfl rfl p0 p1 p2 g0 g1 g2 HR.out.2.1
   have t1:¬ (c0.toNat:Int)<1:=by omega
   by_cases k2:8<c0.toNat
   · have t2:(8:Int)<(c0.toNat:Int):=by omega
     have HNO:=aB (nov_head HR.out.1 (.inr k2))
     go_enter_defers Tryz.func296,Tryz.ntmps296
     go_wp2_with (go_at_call 339;go_loud (refine hT.mono ?_);rintro e w2 ⟨rfl,rfl⟩)
     exact fY HNO.out (by omega) rfl rfl rfl rfl p0 p1 p2 g0 g1 g2 HR.out.2.1
   have t2:¬ (8:Int)<(c0.toNat:Int):=by omega
   obtain⟨n,hn⟩:∃ n,c0.toNat=n:=⟨_,rfl⟩
   go_enter_defers Tryz.func296,Tryz.ntmps296
   go_wp2_with (go_at_call 339;go_loud (refine hT.mono ?_);rintro e w2 ⟨rfl,rfl⟩)
   have hs0:s.size≤9223372036854775807:=HS.out
   go_loopw [7,8,22] (fun _ _ iv wr=>∃ (i:Nat) (a:Option Addr) (c:Nat) (vs:List Int) (r:ByteArray),i≤n∧iv= .int .i64 (i:Int)∧vs.length=i∧wr.cell? ⟨w.heap.size,0,none⟩=some (.slice a i c)∧wr.cell? ⟨w.heap.size+1,0,none⟩=some (.int .i64 0)∧wr.cell? ⟨w.heap.size+1+1,0,none⟩=some (.int .i64 0)∧wr.cell? ⟨w.heap.size+1+1+1,0,none⟩=some (.string r)∧
    wr.frozen? ⟨w.heap.size,0,none⟩=false∧wr.frozen? ⟨w.heap.size+1,0,none⟩=false∧wr.frozen? ⟨w.heap.size+1+1,0,none⟩=false∧wr.frozen? ⟨w.heap.size+1+1+1,0,none⟩=false∧
    s.data.toList=c0::(vs.flatMap gU++r.data.toList)∧(∀ t∈vs,okT t=true)∧bE eVec wr (w.heap.size+4) (.slice a i c) vs∧Below w.heap.size w wr∧w.heap.size+4≤wr.heap.size) (fun _ _ iv _=>n - (intOf iv).toNat)
   case atStart=>exact⟨0,none,0,[],r0,by omega,rfl,rfl,p0,p1,p2,p3,g0,g1,g2,g3,HR.out.1,by simp,World.ownsRow_nil _ _ _ _,HR.out.2.1,by rw[HR.out.2.2.1];omega⟩
   case round=>
    obtain⟨i,a,c,vs,r,hi,rfl,hvl,p0,p1,p2,p3,g0,g1,g2,g3,hsp,hok,hown,hb,hz⟩:=hrel
    have hrs:r.size≤s.size:=by
     have:=congrArg List.length hsp
     rw[List.length_cons,List.length_append]at this
     have e1:s.data.toList.length=s.size:=rfl
     have e2:r.data.toList.length=r.size:=rfl
     omega
    have HB:=aB (aA hvl (aA hsp (aA hok (aA hown (aA hb hz)))))
    clear hvl hsp hok hown hb
    by_cases hlt:i<n
    · have r1:(i:Int)<(n:Int):=by omega
      by_cases h6:r.size<6
      · have hT6:=take_short (n:=6) (k:=6) rfl p3 h6 (by omega)
        have HNO:=aB (nov_rest HB.out.2.1 (by rw[HB.out.1];omega) h6)
        go_wp2_with (go_at_call 339;go_loud (refine hT6.mono ?_);rintro e w3 ⟨rfl,rfl⟩)
        exact fY HNO.out (by omega) rfl rfl rfl rfl p0 p1 p2 g0 g1 g2 HB.out.2.2.2.2.1
      · have hT6:=take_ok (n:=6) (k:=6) rfl p3 g3 (by omega) (by omega)
        obtain⟨t6,ht6⟩:∃ t6,r.extract 0 6=t6:=⟨_,rfl⟩
        obtain⟨r',hr'⟩:∃ r',r.extract 6 r.size=r':=⟨_,rfl⟩
        have hsp2:=bytes_split r 6
        rw[ht6,hr']at hsp2 hT6
        have ht6z:t6.size=6:=by rw[← ht6,ByteArray.size_extract];omega
        obtain⟨W3,hW3⟩:∃ W3,wr.setCell ⟨w.heap.size+1+1+1,0,none⟩ (.string r')=W3:=⟨_,rfl⟩
        rw[hW3]at hT6
        have hz3:W3.heap.size=wr.heap.size:=by rw[← hW3];simp
        have x0:W3.cell? ⟨w.heap.size,0,none⟩=some (.slice a i c):=by rw[← hW3];exact aN p0 (by omega)
        have x1:W3.cell? ⟨w.heap.size+1,0,none⟩=some (.int .i64 0):=by rw[← hW3];exact aN p1 (by omega)
        have x2:W3.cell? ⟨w.heap.size+1+1,0,none⟩=some (.int .i64 0):=by rw[← hW3];exact aN p2 (by omega)
        have x3:W3.cell? ⟨w.heap.size+1+1+1,0,none⟩=some (.string r'):=by rw[← hW3];exact World.cell?_setCell_same _ _ _ p3
        have y0:W3.frozen? ⟨w.heap.size,0,none⟩=false:=by rw[← hW3];simp[go_sem,g0]
        have y1:W3.frozen? ⟨w.heap.size+1,0,none⟩=false:=by rw[← hW3];simp[go_sem,g1]
        have y2:W3.frozen? ⟨w.heap.size+1+1,0,none⟩=false:=by rw[← hW3];simp[go_sem,g2]
        have y3:W3.frozen? ⟨w.heap.size+1+1+1,0,none⟩=false:=by rw[← hW3];simp[go_sem,g3]
        have hb3:Below w.heap.size w W3:=by rw[← hW3];exact HB.out.2.2.2.2.1.setCell (by show _≤w.heap.size+1+1+1;omega) _
        have ho3:bE eVec W3 (w.heap.size+4) (.slice a i c) vs:=by
         rw[← hW3]
         exact(Tn.setCell (F:=fun q=>q=w.heap.size+1+1+1) wr ⟨w.heap.size+1+1+1,0,none⟩ _ rfl).row HB.out.2.2.2.1 (fun q hq e=>by have:=(HB.out.2.2.2.1.lt q hq).1;omega)
        have hG:=get6_any t6 ht6z
        obtain⟨t,ht⟩:∃ t:Int,(Rw.beV t6.data.toList:Int)=t:=⟨_,rfl⟩
        have htl:t6.data.toList.length=6:=ht6z
        have henc:gU t=t6.data.toList:=by rw[← ht];exact enc6_beV htl
        have htk:okT t=true:=by
         have:=Rw.beV_lt t6.data.toList
         rw[htl]at this
         simp only[okT,decide_eq_true_eq]
         omega
        rw[ht]at hG
        obtain⟨W4,hW4⟩:∃ W4,W3.alloc (.cells #[.int .i64 t] 3)=W4:=⟨_,rfl⟩
        have hb4:Below W3.heap.size W3 W4:=by rw[← hW4];exact(Below.refl _ _).alloc (Nat.le_refl _) _
        have hsrc:Src eVec W4 (.slice (some ⟨wr.heap.size,0,none⟩) 1 1) [t]:=by rw[← hW4,←hz3];exact eW W3 t _ _ rfl 1
        have ho4:bE eVec W4 (w.heap.size+4) (.slice a i c) vs:=aD ho3 hb4
        have H4:=aB (aA hb3 (aA hb4 (aA hsrc (aA ho4 (aA henc (aA htk (aA hsp2 hz3)))))))
        clear hb3 hb4 hsrc ho4 henc htk hsp2 ho3 ht6 hr' ht htl p0 p1 p2 p3 g0 g1 g2 g3 ht6z
        have hn8:i≤8:=by omega
        go_wp2_with (first
         |(at_builtin
           go_loud (refine fK eVec rfl _ _ rfl rfl rfl H4.out.2.2.2.1 H4.out.2.2.1 (by rw[HB.out.1];simp;omega) (by have:=H4.out.2.1.size;omega) ?_)
           rw[HB.out.1]
           intro a5 cap5 w5 ho5 hb5 hg5 hv5
           have t5:Tn (fun q=>(Value.slice a i c).ownBlock=some q) W4 w5:=Tn.ofGrown hg5 (fun q hq=>hq)
           have b35:=(Tn.ofBelow (F:=fun q=>(Value.slice a i c).ownBlock=some q) H4.out.2.1).trans t5
           have nb:∀ q,q<w.heap.size+4→¬ (Value.slice a i c).ownBlock=some q:=fun q hq e=>by have:=(H4.out.2.2.2.1.lt q e).1;omega
           have e0:w5.cell? ⟨w.heap.size,0,none⟩=some (.slice a i c):=b35.cell x0 (nb _ (by show w.heap.size<_;omega))
           have e1:=b35.cell x1 (nb _ (by show w.heap.size+1<_;omega))
           have e2:=b35.cell x2 (nb _ (by show w.heap.size+1+1<_;omega))
           have e3:=b35.cell x3 (nb _ (by show w.heap.size+1+1+1<_;omega))
           have k0:w5.frozen? ⟨w.heap.size,0,none⟩=false:=(b35.frozen (p:=⟨w.heap.size,0,none⟩) (by show w.heap.size<_;omega) (nb _ (by show w.heap.size<_;omega))).trans y0
           have k1:=(b35.frozen (p:=⟨w.heap.size+1,0,none⟩) (by show w.heap.size+1<_;omega) (nb _ (by show w.heap.size+1<_;omega))).trans y1
           have k2:=(b35.frozen (p:=⟨w.heap.size+1+1,0,none⟩) (by show w.heap.size+1+1<_;omega) (nb _ (by show w.heap.size+1+1<_;omega))).trans y2
           have k3:=(b35.frozen (p:=⟨w.heap.size+1+1+1,0,none⟩) (by show w.heap.size+1+1+1<_;omega) (nb _ (by show w.heap.size+1+1+1<_;omega))).trans y3
           have H5:=aB (aA ho5 (aA hb5 (aA (aA e1 (aA e2 e3)) (aA k1 (aA k2 k3)))))
           clear ho5 hb5 hg5 hv5 t5 b35 nb e1 e2 e3 k1 k2 k3)
         |(go_at_call 335;go_loud (refine(hG _).mono ?_);rintro e w4 ⟨rfl,rfl⟩)
         |(go_at_call 339;go_loud (refine hT6.mono ?_);rintro e w3 ⟨rfl,hw3⟩;subst hw3))
        go_roundw
        case rel=>
         have l0:(w5.setCell ⟨w.heap.size,0,none⟩ (.slice a5 (i+1) cap5)).cell? ⟨w.heap.size,0,none⟩=some (.slice a5 (i+1) cap5):=World.cell?_setCell_same _ _ _ e0
         refine⟨i+1,a5,cap5,vs++[t],r',by omega,by go_num,by rw[List.length_append,HB.out.1];rfl,l0,aN H5.out.2.2.1.1 (by omega),aN H5.out.2.2.1.2.1 (by omega),aN H5.out.2.2.1.2.2 (by omega),by simp[go_sem,k0],by simp[go_sem,H5.out.2.2.2.1],by simp[go_sem,H5.out.2.2.2.2.1],by simp[go_sem,H5.out.2.2.2.2.2],?_,?_,?_,?_,?_⟩
         · rw[HB.out.2.1,H4.out.2.2.2.2.2.2.1,List.flatMap_append,List.append_assoc]
           simp[H4.out.2.2.2.2.1]
         · intro u hu
           rcases List.mem_append.1 hu with hu|hu
           · exact HB.out.2.2.1 u hu
           · rw[List.mem_singleton.1 hu];exact H4.out.2.2.2.2.2.1
         · exact(Tn.setCell (F:=fun q=>q=w.heap.size) w5 ⟨w.heap.size,0,none⟩ _ rfl).row H5.out.1 (fun q hq e=>by have:=(H5.out.1.lt q hq).1;omega)
         · exact(H4.out.1.trans ((H4.out.2.1.mono (by omega)).trans (H5.out.2.1.mono (by omega)))).setCell (Nat.le_refl _) _
         · have:=H4.out.2.1.size
           have:=H5.out.2.1.size
           simp
           omega
        case measure=>simp[intOf];omega
    · obtain rfl:n=i:=by omega
      have hlen:s.data.toList.length=s.size:=rfl
      have hv:bK vs=true:=by
       simp only[bK,Bool.and_eq_true,decide_eq_true_eq]
       exact⟨by rw[HB.out.1];omega,List.all_eq_true.2 HB.out.2.2.1⟩
      have henc:s.data.toList=fG vs++r.data.toList:=by
       rw[HB.out.2.1]
       unfold fG
       rw[HB.out.1,←hn]
       simp
      have hel:(fG vs).length+r.size=s.size:=by
       have h9:=congrArg List.length henc
       rw[List.length_append]at h9
       have e2:r.data.toList.length=r.size:=rfl
       omega
      obtain⟨en,hen⟩:∃ en,(fG vs).length=en:=⟨_,rfl⟩
      have hsub:(s.size:Int) - (r.size:Int)=(en:Int):=by omega
      have hwr:IntKind.i64.wrap (en:Int)=(en:Int):=IntWalk.i64_in _ (by omega)
      have HE:=aB (aA hv (aA henc hen))
      clear hv henc hel hlen hen
      go_wp2
      have x0:wr.drew.cell? ⟨w.heap.size,0,none⟩=some (.slice a n c):=p0
      have x1:wr.drew.cell? ⟨w.heap.size+1,0,none⟩=some (.int .i64 0):=p1
      have x2:wr.drew.cell? ⟨w.heap.size+1+1,0,none⟩=some (.int .i64 0):=p2
      have x3:wr.drew.cell? ⟨w.heap.size+1+1+1,0,none⟩=some (.string r):=p3
      have y0:wr.drew.frozen? ⟨w.heap.size,0,none⟩=false:=g0
      have y1:wr.drew.frozen? ⟨w.heap.size+1,0,none⟩=false:=g1
      have y2:wr.drew.frozen? ⟨w.heap.size+1+1,0,none⟩=false:=g2
      refine Code.wp_mono (onlyN_of _) ?_
      refine dQ (fun w'=>w'.cell? ⟨w.heap.size,0,none⟩=some (.slice a n c)∧w'.cell? ⟨w.heap.size+1+1+1,0,none⟩=some (.string r)) 8 9 ⟨x0,x3⟩ (fun hH=>?_)
      refine bU [[0],[1],[2],[3],[4],[5]] hH ?_
      refine bM (i:=6) rfl (fun K hK=>?_)
      go_simp
      obtain⟨W7,hW7⟩:∃ W7,(wr.setCell ⟨w.heap.size,0,none⟩ (.slice a n c)).drew=W7:=⟨_,rfl⟩
      have m0:W7.cell? ⟨w.heap.size,0,none⟩=some (.slice a n c):=by rw[← hW7];exact World.cell?_setCell_same wr _ _ p0
      have m1:W7.cell? ⟨w.heap.size+1,0,none⟩=some (.int .i64 0):=by rw[← hW7];exact aN (w:=wr) p1 (by omega)
      have m2:W7.cell? ⟨w.heap.size+1+1,0,none⟩=some (.int .i64 0):=by rw[← hW7];exact aN (w:=wr) p2 (by omega)
      have m3:W7.cell? ⟨w.heap.size+1+1+1,0,none⟩=some (.string r):=by rw[← hW7];exact aN (w:=wr) p3 (by omega)
      have n1:W7.frozen? ⟨w.heap.size+1,0,none⟩=false:=by rw[← hW7];simp[go_sem,g1]
      have n2:W7.frozen? ⟨w.heap.size+1+1,0,none⟩=false:=by rw[← hW7];simp[go_sem,g2]
      have hb7:Below w.heap.size w W7:=by rw[← hW7];exact(HB.out.2.2.2.2.1.setCell (Nat.le_refl _) _).drew
      have ho7:bE eVec W7 (w.heap.size+4) (.slice a n c) vs:=by
       rw[← hW7]
       exact World.ownsRow.drew ((Tn.setCell (F:=fun q=>q=w.heap.size) wr ⟨w.heap.size,0,none⟩ _ rfl).row HB.out.2.2.2.1 (fun q hq e=>by have:=(HB.out.2.2.2.1.lt q hq).1;omega))
      have H7:=aB (aA hb7 ho7)
      rw[hW7]
      refine bH hK ⟨m0,m3⟩ ?_
      clear hK K hW7 x0 x1 x2 x3 y0 y1 y2 hb7 ho7
      intro hH
      refine bM (i:=7) rfl (fun K hK=>?_)
      go_simp
      obtain⟨W8,hW8⟩:∃ W8,W7.setCell ⟨w.heap.size+1,0,none⟩ (.int .i64 (en:Int))=W8:=⟨_,rfl⟩
      rw[hW8]
      have u0:W8.cell? ⟨w.heap.size,0,none⟩=some (.slice a n c):=by rw[← hW8];exact aN m0 (by omega)
      have u1:W8.cell? ⟨w.heap.size+1,0,none⟩=some (.int .i64 (en:Int)):=by rw[← hW8];exact World.cell?_setCell_same _ _ _ m1
      have u2:W8.cell? ⟨w.heap.size+1+1,0,none⟩=some (.int .i64 0):=by rw[← hW8];exact aN m2 (by omega)
      have u3:W8.cell? ⟨w.heap.size+1+1+1,0,none⟩=some (.string r):=by rw[← hW8];exact aN m3 (by omega)
      have v2:W8.frozen? ⟨w.heap.size+1+1,0,none⟩=false:=by rw[← hW8];simp[go_sem,n2]
      have hb8:Below w.heap.size w W8:=by rw[← hW8];exact H7.out.1.setCell (by show _≤w.heap.size+1;omega) _
      have ho8:bE eVec W8 (w.heap.size+4) (.slice a n c) vs:=by
       rw[← hW8]
       exact(Tn.setCell (F:=fun q=>q=w.heap.size+1) W7 ⟨w.heap.size+1,0,none⟩ _ rfl).row H7.out.2 (fun q hq e=>by have:=(H7.out.2.lt q hq).1;omega)
      have H8:=aB (aA hb8 ho8)
      refine bH hK ⟨u0,u3⟩ ?_
      clear hK K hW8 m0 m1 m2 m3 n1 n2 hb8 ho8
      intro hH
      refine tkL rfl (fun K hK=>?_)
      go_simp
      obtain⟨W9,hW9⟩:∃ W9,W8.setCell ⟨w.heap.size+1+1,0,none⟩ (.int .i64 0)=W9:=⟨_,rfl⟩
      rw[hW9]
      have k0:W9.cell? ⟨w.heap.size,0,none⟩=some (.slice a n c):=by rw[← hW9];exact aN u0 (by omega)
      have k1:W9.cell? ⟨w.heap.size+1,0,none⟩=some (.int .i64 (en:Int)):=by rw[← hW9];exact aN u1 (by omega)
      have k2:W9.cell? ⟨w.heap.size+1+1,0,none⟩=some (.int .i64 0):=by rw[← hW9];exact World.cell?_setCell_same _ _ _ u2
      have hb9:Below w.heap.size w W9:=by rw[← hW9];exact H8.out.1.setCell (by show _≤w.heap.size+1+1;omega) _
      have ho9:bE eVec W9 (w.heap.size+4) (.slice a n c) vs:=by
       rw[← hW9]
       exact(Tn.setCell (F:=fun q=>q=w.heap.size+1+1) W8 ⟨w.heap.size+1+1,0,none⟩ _ rfl).row H8.out.2 (fun q hq e=>by have:=(H8.out.2.lt q hq).1;omega)
      have H9:=aB (aA hb9 ho9)
      refine hK.out _ _ (tkD ?_)
      clear hK K hH hW9 u0 u1 u2 u3 v2 hb9 ho9
      dsimp only[onlyN]
      go_wp2
      refine leaves_cons (f:=338) (args:= #[.pointer (some ⟨w.heap.size,0,none⟩),.pointer (some ⟨w.heap.size+1,0,none⟩),.pointer (some ⟨w.heap.size+1+1,0,none⟩)]) (by simp) (by simp[go_sem]) ?_
      refine(getv_idle _ _ _ _).mono ?_
      rintro e u' w'' ⟨rfl,rfl,rfl⟩
      simp[Leaves,settle,results,Tryz.results296,go_sem,k0,k1,k2]
      refine⟨.inr ⟨a,c,vs,r.data.toList,?_,HE.out.1,HE.out.2.1,?_⟩,H9.out.1⟩
      · rw[HE.out.2.2,HB.out.1]
      · rw[HB.out.1]
        exact aK H9.out.2 (by omega)
end
section
open Go.RowKit
variable {w w' w0:World} {H:Nat→Prop} {b:Nat} {l r:List UInt8} {v:Int} {s:ByteArray} {e:PE}
structure RS (w:World) (b:Nat) (l:List UInt8):Prop where
 c:w.cell? ⟨b,0,none⟩=some (.string ⟨l.toArray⟩)
 z:w.frozen? ⟨b,0,none⟩=false
 len:l.length≤1000000000
theorem RS.lt (h:RS w b l):b<w.heap.size:=World.block_lt_of_cell? _ _ h.c
theorem RS.tn (h:RS w b l) (t:Tn H w w') (hH:¬ H b):RS w' b l:=⟨t.cell h.c hH,(t.frozen (p:=⟨b,0,none⟩) h.lt hH).trans h.z,h.len⟩
theorem RS.below (h:RS w b l) (hb:Below w.heap.size w w'):RS w' b l:=h.tn (Tn.ofBelow (F:=fun _=>False) hb) (fun e=>e)
theorem RS.set (h:RS w b (l++r)):RS (w.setCell ⟨b,0,none⟩ (.string ⟨r.toArray⟩)) b r:=
 ⟨World.cell?_setCell_same _ _ _ h.c,by rw[World.frozen?_setCell];exact h.z,by have:=h.len;rw[List.length_append]at this;omega⟩
theorem lW (l:List UInt8):(⟨l.toArray⟩:ByteArray).data.toList=l:=rfl
theorem arr_back (s:ByteArray):(⟨s.data.toList.toArray⟩:ByteArray)=s:=by apply ByteArray.ext;simp
theorem arr_front (l r:List UInt8):(⟨(l++r).toArray⟩:ByteArray).extract 0 l.length=⟨l.toArray⟩:=by
 apply ByteArray.ext
 apply Array.toList_inj.1
 simp[ByteArray.data_extract]
theorem arr_rear (l r:List UInt8):(⟨(l++r).toArray⟩:ByteArray).extract l.length (⟨(l++r).toArray⟩:ByteArray).size=⟨r.toArray⟩:=by
 rw[bQ]
 apply ByteArray.ext
 apply Array.toList_inj.1
 simp[ByteArray.data_extract]
theorem hY (w:World):Calls Tryz.prog 234 #[.bool true] w fun e w'=>e= .returned (.tuple #[])∧w'=w:=by
 go_enter Tryz.func234,Tryz.ntmps234
 go_wp2
 go_end0
 exact⟨rfl,rfl⟩
theorem rtake_any (h:RS w b (l++r)) (hv:v=(l.length:Int)):Calls Tryz.prog 294 #[.pointer (some ⟨b,0,none⟩),.int .i64 v] w fun e w'=>e= .returned (.string ⟨l.toArray⟩)∧w'=w.setCell ⟨b,0,none⟩ (.string ⟨r.toArray⟩):=by
 have hlen:=h.len
 rw[List.length_append]at hlen
 have c0:=h.c
 have z0:=h.z
 have hsz:(⟨(l++r).toArray⟩:ByteArray).size=l.length+r.length:=by rw[bQ,List.length_append]
 have hf:=arr_front l r
 have hr:=arr_rear l r
 obtain⟨S,hS⟩:∃ S:ByteArray,(⟨(l++r).toArray⟩:ByteArray)=S:=⟨_,rfl⟩
 obtain⟨n,hn⟩:∃ n,l.length=n:=⟨_,rfl⟩
 obtain⟨x,hx⟩:∃ x:ByteArray,(⟨l.toArray⟩:ByteArray)=x:=⟨_,rfl⟩
 obtain⟨y,hy⟩:∃ y:ByteArray,(⟨r.toArray⟩:ByteArray)=y:=⟨_,rfl⟩
 rw[hS]at c0 hsz hf hr
 rw[hn]at hf hr hv hsz hlen
 rw[hx]at hf ⊢
 rw[hy]at hr ⊢
 subst hv
 have a1:(0:Int)≤(n:Int):=by omega
 have a2:(n:Int)≤(S.size:Int):=by omega
 have a3:S.size≤9223372036854775807:=by omega
 have HH:=aB (aA hf hr)
 clear hf hr hsz hlen hS hx hy h
 go_enter Tryz.func294,Tryz.ntmps294
 go_wp2_with (go_at_call 234;refine(hY _).mono ?_;rintro e w2 ⟨rfl,rfl⟩)
 go_ret
 exact⟨by rw[HH.out.1];rfl,by rw[HH.out.2]⟩
theorem num_get (h0:0≤v) (h1:v<9223372036854775808) (r:List UInt8):Rw.getF (aS v++r)=(v.toNat,(aS v).length,0):=Rw.getF_put v.toNat (by omega) r
theorem cO (h:RS w b (aS v++r)) (h0:0≤v) (h1:v<9223372036854775808):Calls Tryz.prog 235 #[.pointer (some ⟨b,0,none⟩)] w fun e w'=>e= .returned (.int .i64 v)∧RS w' b r∧Tn (fun q=>q=b) w w':=by
 have c0:=h.c
 have hlen:=h.len
 have hg:=getvar_any (⟨(aS v++r).toArray⟩:ByteArray) w (by rw[bQ];unfold maxLen;omega)
 rw[lW,num_get h0 h1,Int.toNat_of_nonneg h0]at hg
 obtain⟨S,hS⟩:∃ S:ByteArray,(⟨(aS v++r).toArray⟩:ByteArray)=S:=⟨_,rfl⟩
 rw[hS]at hg c0
 obtain⟨n,hn⟩:∃ n,(aS v).length=n:=⟨_,rfl⟩
 rw[hn]at hg
 have HG:=aB (aA hg (aA h hn))
 clear hg h hn hlen hS
 go_enter Tryz.func235,Tryz.ntmps235
 go_wp2_with (first
  |(go_at_call 294;refine(rtake_any (HG.out.2.1.below H2.out) (by rw[HG.out.2.2])).mono ?_;rintro e w3 ⟨rfl,hw3⟩;have H3:=aB hw3;clear hw3)
  |(go_at_call 234;refine(hY _).mono ?_;rintro e w4 ⟨rfl,rfl⟩)
  |(go_at_call 293;refine HG.out.1.mono ?_;rintro e w2 ⟨rfl,hb2⟩;have H2:=aB hb2;clear hb2))
 go_ret
 refine⟨rfl,?_,?_⟩
 · rw[H3.out];exact(HG.out.2.1.below H2.out).set
 · rw[H3.out];exact(Tn.ofBelow H2.out).trans tn_setS
theorem gK (h:RS w b (dY s++r)):Calls Tryz.prog 295 #[.pointer (some ⟨b,0,none⟩)] w fun e w'=>e= .returned (.string s)∧RS w' b r∧Tn (fun q=>q=b) w w':=by
 unfold dY at h
 rw[List.append_assoc]at h
 have hlen:=h.len
 have hsz:s.data.toList.length=s.size:=rfl
 rw[List.length_append,List.length_append,hsz]at hlen
 have hn:=cO h (by omega) (by omega)
 have HN:=aB hn
 have HS:=aB (aA hsz hlen)
 clear hn h hlen hsz
 have hs2:s.size≤1000000000:=by have:=HS.out.2;omega
 go_enter Tryz.func295,Tryz.ntmps295
 go_wp2_with (first
  |(go_at_call 31;refine(cB _ s (by omega)).mono ?_;rintro e w4 ⟨rfl,hb4⟩;have H4:=aB hb4;clear hb4)
  |(go_at_call 294;refine(rtake_any H2.out.1 (by rw[HS.out.1])).mono ?_;rw[arr_back];rintro e w3 ⟨rfl,hw3⟩;have H3:=aB hw3;clear hw3)
  |(go_at_call 235;refine HN.out.mono ?_;rintro e w2 ⟨rfl,h2,t2⟩;have H2:=aB (aA h2 t2);clear h2 t2))
 go_ret
 have h3:RS w3 b r:=by rw[H3.out];exact H2.out.1.set
 have t3:Tn (fun q=>q=b) w w3:=by rw[H3.out];exact H2.out.2.trans tn_setS
 exact⟨rfl,h3.below H4.out,t3.trans (Tn.ofBelow H4.out)⟩
end
end Go.Proofs.YtpfibkgmfapnjaaGreatDoor
