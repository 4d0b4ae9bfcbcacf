/- Wal: the walks of framed, read. -/
import Derived.Test.YtpfibkgmfapnjaaGreatDoorS15
import Derived.Test.YtpfibkgmfapnjaaGreatDoorS7
set_option linter.unusedSimpArgs false
set_option linter.unusedVariables false
namespace Go.Proofs.YtpfibkgmfapnjaaGreatDoor
section
open Go.RowKit
theorem framed_eq (r:ByteArray):(⟨(Rw.beF 4 (r.size+1)).toArray⟩:ByteArray)++⟨(Rw.beF 4 (Rw.sumF ((⟨(Rw.beF 4 (r.size+1)).toArray⟩:ByteArray)++r).data.toList)).toArray⟩++r=aQ r:=by
 apply ba_ext
 rw[fF]
 have h:((⟨(Rw.beF 4 (r.size+1)).toArray⟩:ByteArray)++r).data.toList=Rw.beF 4 (r.data.toList.length+1)++r.data.toList:=by
  rw[ba_app,←bC]
 rw[h,ba_app,ba_app]
 unfold cF sumL
 rw[← bC]
theorem beF4_size (v:Nat):(⟨(Rw.beF 4 v).toArray⟩:ByteArray).size=4:=by simp[ByteArray.size,Rw.beF_len]
set_option maxRecDepth 100000 in
set_option maxHeartbeats 1000000 in
theorem w_framed (r:ByteArray) (hr:r.size≤1000000) (w:World):Calls Tryz.prog 240 #[.string r] w fun e w'=>e= .returned (.string (aQ r))∧Below w.heap.size w w':=by
 rw[← framed_eq]
 obtain⟨a,ha⟩:∃ a,(⟨(Rw.beF 4 (r.size+1)).toArray⟩:ByteArray)=a:=⟨_,rfl⟩
 have ha4:a.size≤4:=by rw[← ha,beF4_size];omega
 obtain⟨sm,hsm⟩:∃ sm,Rw.sumF (a++r).data.toList=sm:=⟨_,rfl⟩
 have hsl:sm<4294967296:=by rw[← hsm];exact Rw.sumF_lt _
 have h1:∀ W,Calls Tryz.prog 54 #[.int .i64 ((r.size:Int)+1),.int .i64 4] W fun e w'=>e= .returned (.tuple #[.string a,.int .i64 0])∧Below W.heap.size W w':=fun W=>by
  rw[← ha];exact put_ok (r.size+1) 4 W (by omega) (by omega) (by omega)
 have h2:∀ W,Calls Tryz.prog 55 #[.string (a++r)] W fun e w'=>e= .returned (.int .i64 (sm:Int))∧W=w':=fun W=>by
  rw[← hsm];exact sum_any _ W (by unfold maxLen;rw[ByteArray.size_append];omega)
 have h3:∀ W,Calls Tryz.prog 54 #[.int .i64 (sm:Int),.int .i64 4] W fun e w'=>e= .returned (.tuple #[.string ⟨(Rw.beF 4 sm).toArray⟩,.int .i64 0])∧Below W.heap.size W w':=fun W=>put_ok sm 4 W (by omega) (by omega) (by omega)
 obtain⟨b,hb⟩:∃ b,(⟨(Rw.beF 4 sm).toArray⟩:ByteArray)=b:=⟨_,rfl⟩
 have hb4:b.size≤4:=by rw[← hb,beF4_size];omega
 rw[ha,hsm,hb]
 rw[hb]at h3
 clear ha hsm hb
 go_enter Tryz.func240,Tryz.ntmps240
 go_wp2_with (first
  |(go_at_call 55;go_loud (refine(h2 _).mono ?_);rintro e w2 ⟨rfl,rfl⟩)
  |(go_at_call 54;with_reducible refine(h3 _).mono ?_;rintro e w3 ⟨rfl,c2⟩;have B2:=aB (B1.out.trans (c2.mono B1.out.size));clear c2)
  |(go_at_call 54;with_reducible refine(h1 _).mono ?_;rintro e w1 ⟨rfl,c1⟩;have B1:=aB c1;clear c1))
 go_ret
 exact⟨rfl,B2.out⟩
structure RdS (w0 w:World) (b:ByteArray) (done:List (List UInt8)) (t:List UInt8) (a:Option Addr) (c:Nat):Prop where
 eq:b.data.toList=aX done++t
 len:∀ r∈done,r.length≤131072
 c0:w.cell? ⟨w0.heap.size+1,0,none⟩=some (.slice a done.length c)
 c1:w.cell? ⟨w0.heap.size+1,1,none⟩=some (.int .i64 ((aX done).length:Int))
 r0:∃ v,w.cell? ⟨w0.heap.size,0,none⟩=some v
 r1:∃ v,w.cell? ⟨w0.heap.size,1,none⟩=some v
 f:∀ j,w.frozen? ⟨w0.heap.size+1,j,none⟩=false∧w.frozen? ⟨w0.heap.size,j,none⟩=false
 own:bE eStr w (w0.heap.size+2) (.slice a done.length c) (done.map toB)
 bel:Below w0.heap.size w0 w
def ReadE (b:ByteArray) (w:World) (e:Ending) (w':World):Prop:=
 ∃ a c,bE eStr w' w.heap.size (.slice a (aM b).length c) (aM b)∧
  ((dI b=b.size∧e= .returned (.agg #[.slice a (aM b).length c,.int .i64 (dI b:Int)]))∨
   (dI b≠b.size∧e= .panicked [{v:= .iface 274 (.agg #[.slice a (aM b).length c,.int .i64 (dI b:Int)]),recovered:=false}]))
theorem RdS.stop {w0 w:World} {b:ByteArray} {done:List (List UInt8)} {t:List UInt8} {a:Option Addr} {c:Nat} (h:RdS w0 w b done t a c) (ht:cP t=none):aM b=done.map toB∧dI b=(aX done).length∧b.size=(aX done).length+t.length:=by
 unfold aM dI
 rw[h.eq,scan_frames done t h.len,scan_none ht]
 refine⟨by simp,by simp,by rw[bC,h.eq,List.length_append]⟩
theorem frames_ge (l:List (List UInt8)):8*l.length≤(aX l).length:=by
 induction l with
 |nil=>simp
 |cons x l ih=>rw[fD,List.length_append,eF,List.length_cons];omega
theorem fL (b:ByteArray) (i j:Nat):(b.extract i j).data.toList=(b.data.toList.drop i).take (j - i):=by
 rw[ByteArray.data_extract,Array.toList_extract,List.extract_eq_take_drop]
theorem RdS.rest {w0 w:World} {b:ByteArray} {done:List (List UInt8)} {t:List UInt8} {a:Option Addr} {c:Nat} (h:RdS w0 w b done t a c):(b.extract (aX done).length b.size).data.toList=t:=by
 rw[fL,h.eq,List.drop_left]
 apply List.take_of_length_le
 rw[bC,h.eq,List.length_append]
 omega
theorem RdS.size {w0 w:World} {b:ByteArray} {done:List (List UInt8)} {t:List UInt8} {a:Option Addr} {c:Nat} (h:RdS w0 w b done t a c):b.size=(aX done).length+t.length:=by
 rw[bC,h.eq,List.length_append]
theorem RdS.below {w0 w w':World} {b:ByteArray} {done:List (List UInt8)} {t:List UInt8} {a:Option Addr} {c:Nat} (h:RdS w0 w b done t a c) (hb:Below w.heap.size w w'):RdS w0 w' b done t a c:=by
 have hl:w0.heap.size+1<w.heap.size:=World.block_lt_of_cell? _ _ h.c0
 obtain⟨v0,r0⟩:=h.r0
 obtain⟨v1,r1⟩:=h.r1
 exact⟨h.eq,h.len,(hb.cell (p:=⟨_,_,none⟩) hl).trans h.c0,(hb.cell (p:=⟨_,_,none⟩) hl).trans h.c1,⟨v0,(hb.cell (p:=⟨w0.heap.size,0,none⟩) (by show w0.heap.size<_;omega)).trans r0⟩,⟨v1,(hb.cell (p:=⟨w0.heap.size,1,none⟩) (by show w0.heap.size<_;omega)).trans r1⟩,
  fun j=>⟨(hb.frozen (p:=⟨_,j,none⟩) hl).trans (h.f j).1,(hb.frozen (p:=⟨w0.heap.size,j,none⟩) (by show w0.heap.size<_;omega)).trans (h.f j).2⟩,aD h.own hb,h.bel.trans (hb.mono h.bel.size)⟩
theorem RdS.fell {w0 w:World} {b:ByteArray} {done:List (List UInt8)} {t:List UInt8} {a:Option Addr} {c:Nat} (h:RdS w0 w b done t a c) (ht:cP t=none) (hne:t≠[]) {e:Ending} {k:Nat} (hk:done.length=k) {n:Int} (hn:((aX done).length:Int)=n)
 (he:e= .panicked [{v:= .iface 274 (.agg #[.slice a k c,.int .i64 n]),recovered:=false}]) {w':World} (hb:Below w.heap.size w w'):ReadE b w0 e w'∧Below w0.heap.size w0 w':=by
 obtain⟨h1,h2,h3⟩:=h.stop ht
 subst hk hn
 have hl:0<t.length:=List.length_pos_iff.2 hne
 refine⟨⟨a,c,?_,.inr ⟨by omega,?_⟩⟩,h.bel.trans (hb.mono h.bel.size)⟩
 · rw[h1,show(done.map toB).length=done.length from List.length_map _]
   exact aK (aD h.own hb) (by omega)
 · rw[he,h1,h2,show(done.map toB).length=done.length from List.length_map _]
set_option maxRecDepth 100000 in
set_option maxHeartbeats 4000000 in
theorem w_read (b:ByteArray) (hb:b.size≤1048576) (w:World):Calls Tryz.prog 284 #[.string b] w fun e w'=>ReadE b w e w'∧Below w.heap.size w w':=by
 go_enter Tryz.func284,Tryz.ntmps284
 go_wp2
 go_loopw [4,5,6] (fun _ _ _ wr=>∃ done t a c,RdS w wr b done t a c) (fun _ _ _ wr=>b.size - (match wr.cell? ⟨w.heap.size+1,1,none⟩with|some (.int .i64 n)=>n.toNat|_=>0))
 case atStart=>
  refine⟨[],b.data.toList,none,0,⟨rfl,by simp,?_,?_,?_,?_,?_,World.ownsRow_nil _ _ _ _,?_⟩⟩
  · simp[go_sem]
  · simp[go_sem,aX]
  · simp[go_sem]
  · simp[go_sem]
  · intro j;simp[go_sem]
  · exact((Below.refl _ _).alloc (Nat.le_refl _) _).alloc (by simp) _
 case round=>
  obtain⟨wo,rfl⟩:∃ wo,wo=wr:=⟨_,rfl⟩
  obtain⟨done,t,a,c,hs⟩:=hrel
  have HS:=aB hs
  have c0:=hs.c0
  have c1:=hs.c1
  obtain⟨n,hn⟩:∃ n,(aX done).length=n:=⟨_,rfl⟩
  obtain⟨k,hk⟩:∃ k,done.length=k:=⟨_,rfl⟩
  have hsz:=hs.size
  have hrest:=hs.rest
  rw[hn]at c1 hsz hrest
  rw[hk]at c0
  have HN:=aB (aA hn hk)
  obtain⟨tl,htl⟩:∃ tl,t.length=tl:=⟨_,rfl⟩
  rw[htl]at hsz
  have HTL:=aB htl
  rw[hsz]at hrest
  obtain⟨rest,hr⟩:∃ rest,b.extract n (n+tl)=rest:=⟨_,rfl⟩
  rw[hr]at hrest
  have hrs:rest.size=tl:=by rw[bC,hrest,htl]
  have HBS:=aB (aA hrest (aA hr hrs))
  obtain⟨⟨r0v,r0⟩,⟨r1v,r1⟩⟩:=aA hs.r0 hs.r1
  have fr0:=(hs.f 0).2
  have fr1:=(hs.f 1).2
  have ff0:=(hs.f 0).1
  have ff1:=(hs.f 1).1
  have hbl:=hs.bel
  have hwz:=hs.bel.size
  have hw2:w.heap.size+1<wo.heap.size:=World.block_lt_of_cell? _ _ c0
  have HB:=aB hbl
  clear hs hn hk htl hrest hbl
  rcases Nat.eq_zero_or_pos tl with h0|h0
  · subst h0
    have t0:¬ n<b.size:=by omega
    have hno:cP t=none:=by unfold cP;rw[if_pos (.inl (by rw[HTL.out];omega))]
    have HNO:=aB hno
    clear hr hrs hno
    obtain⟨W1,hW1⟩:∃ W1,(wo.setCell ⟨w.heap.size,0,none⟩ (.slice a k c)).setCell ⟨w.heap.size,1,none⟩ (.int .i64 (n:Int))=W1:=⟨_,rfl⟩
    have s0:W1.cell? ⟨w.heap.size,0,none⟩=some (.slice a k c):=by
     rw[← hW1,World.cell?_setCell_other _ _ _ _ (by intro e;injection e with _ e2;omega)]
     exact World.cell?_setCell_same _ _ _ r0
    have s1:W1.cell? ⟨w.heap.size,1,none⟩=some (.int .i64 (n:Int)):=by
     rw[← hW1]
     have r1':(wo.setCell ⟨w.heap.size,0,none⟩ (.slice a k c)).cell? ⟨w.heap.size,1,none⟩=some r1v:=by
      rw[World.cell?_setCell_other _ _ _ _ (by intro e;injection e with _ e2;omega)]
      exact r1
     exact World.cell?_setCell_same _ _ _ r1'
    have bW:Below w.heap.size wo W1:=by rw[← hW1];exact((Below.refl w.heap.size wo).setCell (p:=⟨w.heap.size,0,none⟩) (Nat.le_refl _) _).setCell (p:=⟨w.heap.size,1,none⟩) (Nat.le_refl _) _
    have oW:bE eStr W1 (w.heap.size+2) (.slice a k c) (done.map toB):=by
     rw[← hW1]
     have h5:=HS.out.own
     rw[HN.out.2]at h5
     exact((Tn.setCell (F:=fun q=>q=w.heap.size) wo ⟨w.heap.size,0,none⟩ (.slice a k c) rfl).trans (Tn.setCell (F:=fun q=>q=w.heap.size) _ ⟨w.heap.size,1,none⟩ _ rfl)).row h5 (fun q hq e=>by have:=(h5.lt q hq).1;omega)
    have HW:=aB (aA bW oW)
    clear bW oW
    go_wp2
    refine bodyPost_ret (v:= .agg #[.slice a k c,.int .i64 (n:Int)]) (by simp[results,Tryz.results284,go_sem,s0,s1]) rfl ⟨⟨a,c,?_,.inl ⟨?_,?_⟩⟩,HB.out.trans HW.out.1⟩
    · have h6:=HS.out.stop HNO.out
      rw[h6.1,show(done.map toB).length=k by rw[List.length_map,HN.out.2]]
      exact aK HW.out.2 (by omega)
    · have h6:=HS.out.stop HNO.out
      rw[h6.2.1,h6.2.2,HTL.out]
      rfl
    · have h6:=HS.out.stop HNO.out
      rw[h6.1,h6.2.1,show(done.map toB).length=k by rw[List.length_map,HN.out.2],HN.out.1]
  · have hne:t≠[]:=fun e=>by have:=HTL.out;rw[e]at this;simp at this;omega
    have t0:n<b.size:=by omega
    rcases Nat.lt_or_ge tl 8 with h8|h8
    · have t1:(tl:Int)<8:=by omega
      have hno:cP t=none:=by unfold cP;rw[if_pos (.inl (by rw[HTL.out];exact h8))]
      have HNO:=aB (aA hno hne)
      clear hno hne
      go_wp2
      exact⟨rfl,HS.out.fell HNO.out.1 HNO.out.2 HN.out.2 (congrArg Int.ofNat HN.out.1) rfl (Below.refl _ _)⟩
    · have t1:¬ (tl:Int)<8:=by omega
      obtain⟨nn,hnn⟩:∃ nn,Rw.beV (t.take 4)=nn:=⟨_,rfl⟩
      have h4l:(t.take 4).length=4:=by rw[List.length_take,HTL.out];omega
      have hn4:nn<4294967296:=by
       rw[← hnn]
       have:=Rw.beV_lt (t.take 4)
       rw[h4l]at this
       exact this
      have hp4:(rest.extract 0 4).data.toList=t.take 4:=by rw[fL,HBS.out.1,List.drop_zero,Nat.sub_zero]
      have hp4s:(rest.extract 0 4).size≤maxLen:=by rw[bC,hp4,h4l];decide
      have hget:∀ W,Calls Tryz.prog 335 #[.string (rest.extract 0 4)] W fun e w'=>e= .returned (.tuple #[.int .i64 (nn:Int),.int .i64 0])∧W=w':=fun W=>by
       refine(get_any (rest.extract 0 4) W hp4s).mono ?_
       rintro e w' ⟨he,hw⟩
       refine⟨?_,hw⟩
       rw[he,hp4]
       unfold iF getOk
       rw[if_pos (by rw[h4l];decide),hnn]
      have HNN:=aB (aA hnn h4l)
      clear hnn h4l hp4 hp4s
      by_cases c1':nn<1
      · have d1:decide ((nn:Int)<1)=true:=by simp;omega
        have hno:cP t=none:=by unfold cP;rw[if_pos (.inr (.inl (by rw[HNN.out.1];exact c1')))]
        have HNO:=aB (aA hno hne)
        clear hno hne c1'
        go_wp2_with (go_at_call 335;with_reducible refine(hget _).mono ?_;rintro e w2 ⟨rfl,rfl⟩)
        go_quiet (fail)
        go_wp2
        exact⟨rfl,HS.out.fell HNO.out.1 HNO.out.2 HN.out.2 (congrArg Int.ofNat HN.out.1) rfl (below_drewN (Below.refl _ _) nq)⟩
      · have d1:decide ((nn:Int)<1)=false:=by simp;omega
        have e1:IntKind.i64.wrap ((nn:Int) - 1)=(nn:Int) - 1:=IntWalk.i64_in _ (by omega)
        by_cases c2':131072<nn - 1
        · have d2:decide (131072<(nn:Int) - 1)=true:=by simp;omega
          have hno:cP t=none:=by unfold cP;rw[if_pos (.inr (.inr (.inl (by rw[HNN.out.1];exact c2'))))]
          have HNO:=aB (aA hno hne)
          clear hno hne c2' c1'
          go_wp2_with (go_at_call 335;with_reducible refine(hget _).mono ?_;rintro e w2 ⟨rfl,rfl⟩)
          go_quiet (fail)
          go_wp2
          exact⟨rfl,HS.out.fell HNO.out.1 HNO.out.2 HN.out.2 (congrArg Int.ofNat HN.out.1) rfl (below_drewN (Below.refl _ _) nq)⟩
        · have d2:decide (131072<(nn:Int) - 1)=false:=by simp;omega
          have e2:IntKind.i64.wrap ((tl:Int) - 8)=(tl:Int) - 8:=IntWalk.i64_in _ (by omega)
          by_cases c3':tl - 8<nn - 1
          · have d3:decide ((tl:Int) - 8<(nn:Int) - 1)=true:=by simp;omega
            have hno:cP t=none:=by unfold cP;rw[if_pos (.inr (.inr (.inr (.inl (by rw[HNN.out.1,HTL.out];exact c3')))))]
            have HNO:=aB (aA hno hne)
            clear hno hne c2' c1' c3'
            go_wp2_with (go_at_call 335;with_reducible refine(hget _).mono ?_;rintro e w2 ⟨rfl,rfl⟩)
            go_quiet (fail)
            go_wp2
            exact⟨rfl,HS.out.fell HNO.out.1 HNO.out.2 HN.out.2 (congrArg Int.ofNat HN.out.1) rfl (below_drewN (Below.refl _ _) nq)⟩
          · have d3:decide ((tl:Int) - 8<(nn:Int) - 1)=false:=by simp;omega
            have e3:IntKind.i64.wrap (8+(nn:Int))=8+(nn:Int):=IntWalk.i64_in _ (by omega)
            have e4:IntKind.i64.wrap (8+(nn:Int) - 1)=8+(nn:Int) - 1:=IntWalk.i64_in _ (by omega)
            have f1:1≤8+(nn:Int):=by omega
            have f2:8+(nn:Int) - 1≤(tl:Int):=by omega
            have f3:8≤8+(nn:Int) - 1:=by omega
            have e5:(8+(nn:Int)).toNat=8+nn:=by omega
            go_wp2_with (go_at_call 335;with_reducible refine(hget _).mono ?_;rintro e w2 ⟨rfl,rfl⟩)
            refine dQ (fun _=>True) 28 29 trivial (fun hH=>?_)
            refine bU [[0,1,2,7,15],[1,2,7,15],[2,7,15],[3,4,5,6,7,15],[4,5,6,7,15],[5,6,7,15],[6,7,15],[7,15],[8,9,13,14,15],[9,13,14,15],[10,11,12,13,14,15],[11,12,13,14,15],[12,13,14,15],[13,14,15],[14,15],[15],[16,20,21,27],[17,18,19,20,21,27],[18,19,20,21,27],[19,20,21,27],[20,21,27],[22,26,27],[23,24,25,26,27],[24,25,26,27],[25,26,27],[26,27]] hH ?_
            refine bM (i:=21) rfl (fun K hK=>?_)
            go_simp
            obtain⟨r,hrr⟩:∃ r,rest.extract 8 (7+nn)=r:=⟨_,rfl⟩
            have hrl:r.data.toList=(t.drop 8).take (nn - 1):=by rw[← hrr,fL,HBS.out.1,show 7+nn - 8=nn - 1 by omega]
            have hrsz:r.size=nn - 1:=by rw[bC,hrl,List.length_take,List.length_drop,HTL.out];omega
            obtain⟨p,hpp⟩:∃ p,rest.extract 0 (7+nn)=p:=⟨_,rfl⟩
            have hpl:p.data.toList=t.take (7+nn):=by rw[← hpp,fL,HBS.out.1,List.drop_zero,Nat.sub_zero]
            rw[hrr]
            go_at_call 240
            with_reducible refine(w_framed r (by omega) _).mono ?_
            rintro e w3 ⟨rfl,hb3⟩
            have hs3:=HS.out.below ((Below.refl _ _).drew.trans hb3)
            have HS3:=aB hs3
            have c03:=hs3.c0
            have c13:=hs3.c1
            rw[HN.out.1]at c13
            rw[HN.out.2]at c03
            have ff03:=(hs3.f 0).1
            have ff13:=(hs3.f 1).1
            obtain⟨fr,hfr⟩:∃ fr,aQ r=fr:=⟨_,rfl⟩
            have HR:=aB (aA hrl (aA hrsz (aA hpl (aA hfr (aA hrr hpp)))))
            rw[hfr]
            clear hb3 hs3 hrl hpl hfr c0 c1 r0 r1 fr0 fr1 ff0 ff1 hrr
            refine bH hK trivial ?_
            clear hK K
            intro hH
            rw[hpp]
            clear hpp
            by_cases hq:fr=p
            · subst hq
              refine bU [[27]] hH ?_
              refine eU ?_
              clear hH
              go_wp2_with fail
              have cd3:w3.drew.cell? ⟨w.heap.size+1,0,none⟩=some (.slice a k c):=c03
              refine dQ (fun w'=>w'.cell? ⟨w.heap.size+1,0,none⟩=some (.slice a k c)) 11 12 cd3 (fun hH=>?_)
              refine bU [[0],[1],[2],[3],[4],[5],[6]] hH ?_
              refine bM (i:=7) rfl (fun K hK=>?_)
              go_simp
              rw[HR.out.2.2.2.2.1]
              go_at_call 31
              with_reducible refine(cB _ r (by omega)).mono ?_
              rintro e w4 ⟨rfl,hb4⟩
              have hb34:Below w3.heap.size w3 w4:=(Below.refl _ _).drew.trans hb4
              have cd4:=(hb34.cell (p:=⟨w.heap.size+1,0,none⟩) (World.block_lt_of_cell? _ _ c03)).trans c03
              have H4:=aB hb34
              clear hb4 hb34
              refine bH hK cd4 ?_
              clear hK K
              intro hH
              refine bM (i:=8) rfl (fun K hK=>?_)
              go_simp
              obtain⟨w5,hw5⟩:∃ w5,w5=w4.alloc (.cells #[.string r] 9):=⟨_,rfl⟩
              have hb35:Below w3.heap.size w3 w5:=by rw[hw5];exact H4.out.alloc H4.out.size _
              have hsrc:Src eStr w5 (.slice (some ⟨w4.heap.size,0,none⟩) 1 1) [r]:=by rw[hw5];exact eW w4 r _ _ rfl 1
              have hs5:=HS3.out.below hb35
              have cd5:=hs5.c0
              rw[HN.out.2]at cd5
              have ho5:=hs5.own
              rw[HN.out.2]at ho5
              have hml:(done.map toB).length=k:=by rw[List.length_map,HN.out.2]
              have hk5:k≤1048576:=by
               have h1:=HN.out.2
               have h2:8*done.length≤(aX done).length:=by
                exact frames_ge done
               have h3:=HN.out.1
               omega
              have hB5:=hs5.bel.size
              have hwz5:w.heap.size+1<w5.heap.size:=World.block_lt_of_cell? _ _ cd5
              have H5:=aB (aA hs5 (aA hsrc (aA ho5 hml)))
              rw[← hw5]
              clear hb35 hsrc hs5 ho5 hml hw5
              refine bH hK cd5 ?_
              clear hK K
              intro hH
              refine bM (i:=9) rfl (fun K hK=>?_)
              refine lE eStr rfl _ _ rfl rfl rfl H5.out.2.2.1 H5.out.2.1 (by rw[H5.out.2.2.2];simp;omega) (by omega) ?_
              rw[H5.out.2.2.2]
              intro a6 cap6 w6 ho6 hb6 hg6 hv6
              have cd6:=(hb6.cell (p:=⟨w.heap.size+1,0,none⟩) (by show w.heap.size+1<w.heap.size+2;omega)).trans cd5
              have ff06:w6.frozen? ⟨w.heap.size+1,0,none⟩=false:=(hb6.frozen (p:=⟨w.heap.size+1,0,none⟩) (by show w.heap.size+1<w.heap.size+2;omega)).trans (H5.out.1.f 0).1
              have H6:=aB (aA ho6 hb6)
              clear ho6 hb6 hg6 hv6
              refine bH hK cd6 ?_
              clear hK K
              intro hH
              refine bU [[10]] hH ?_
              refine eU ?_
              clear hH
              obtain⟨W7,hW7⟩:∃ W7,w6.setCell ⟨w.heap.size+1,0,none⟩ (.slice a6 (k+1) cap6)=W7:=⟨_,rfl⟩
              have hs6:=H5.out.1.below (Below.refl _ _)
              have x0:W7.cell? ⟨w.heap.size+1,0,none⟩=some (.slice a6 (k+1) cap6):=by rw[← hW7];exact World.cell?_setCell_same _ _ _ cd6
              have c16:w6.cell? ⟨w.heap.size+1,1,none⟩=some (.int .i64 (n:Int)):=by
               have h1:=H5.out.1.c1
               rw[HN.out.1]at h1
               exact(H6.out.2.cell (p:=⟨w.heap.size+1,1,none⟩) (by show w.heap.size+1<w.heap.size+2;omega)).trans h1
              have x1:W7.cell? ⟨w.heap.size+1,1,none⟩=some (.int .i64 (n:Int)):=by
               rw[← hW7,World.cell?_setCell_other _ _ _ _ (by intro e;injection e with _ e2;omega)]
               exact c16
              have xf:W7.frozen? ⟨w.heap.size+1,1,none⟩=false:=by
               rw[← hW7,World.frozen?_setCell]
               exact(H6.out.2.frozen (p:=⟨w.heap.size+1,1,none⟩) (by show w.heap.size+1<w.heap.size+2;omega)).trans (H5.out.1.f 1).1
              have HW7:=aB hW7
              rw[hW7]
              clear hW7 cd6 cd5 cd4 cd3 c03 c13 ff06 ff03 ff13 c16 hs6
              go_wp2
              go_roundw
              case rel=>
               have hfl:cF r.data.toList=t.take (7+nn):=by rw[← fF,HR.out.2.2.2.1,HR.out.2.2.1]
               have hll:(done++[r.data.toList]).length=k+1:=by rw[List.length_append,HN.out.2];rfl
               have hff:((aX (done++[r.data.toList])).length:Int)=(n:Int)+(8+(nn:Int) - 1):=by
                rw[kU,kT,List.length_append,HN.out.1,eF,←bC,HR.out.2.1]
                omega
               have hs5:=H5.out.1
               have hb67:Below (w.heap.size) w5 ((w6.setCell ⟨w.heap.size+1,0,none⟩ (.slice a6 (k+1) cap6)).setCell ⟨w.heap.size+1,1,none⟩ (.int .i64 ((n:Int)+(8+(nn:Int) - 1)))):=
                ((H6.out.2.mono (by omega)).setCell (p:=⟨w.heap.size+1,0,none⟩) (by show w.heap.size≤w.heap.size+1;omega) _).setCell (p:=⟨w.heap.size+1,1,none⟩) (by show w.heap.size≤w.heap.size+1;omega) _
               have ht67:Tn (fun q=>q=w.heap.size+1) w6 ((w6.setCell ⟨w.heap.size+1,0,none⟩ (.slice a6 (k+1) cap6)).setCell ⟨w.heap.size+1,1,none⟩ (.int .i64 ((n:Int)+(8+(nn:Int) - 1)))):=
                (Tn.setCell (F:=fun q=>q=w.heap.size+1) w6 ⟨w.heap.size+1,0,none⟩ _ rfl).trans (Tn.setCell (F:=fun q=>q=w.heap.size+1) _ ⟨w.heap.size+1,1,none⟩ _ rfl)
               rw[HW7.out]at hb67 ht67
               obtain⟨v0,r0⟩:=hs5.r0
               obtain⟨v1,r1⟩:=hs5.r1
               have h6r:∀ j,w6.cell? ⟨w.heap.size,j,none⟩=w5.cell? ⟨w.heap.size,j,none⟩:=fun j=>H6.out.2.cell (p:=⟨w.heap.size,j,none⟩) (by show w.heap.size<w.heap.size+2;omega)
               refine⟨done++[r.data.toList],t.drop (7+nn),a6,cap6,⟨?_,?_,?_,?_,⟨v0,?_⟩,⟨v1,?_⟩,?_,?_,?_⟩⟩
               · rw[hs5.eq,kU,kT,hfl,List.append_assoc,List.take_append_drop]
               · intro x hx
                 rcases List.mem_append.1 hx with hx|hx
                 · exact hs5.len x hx
                 · rw[List.mem_singleton]at hx
                   subst hx
                   rw[← bC,HR.out.2.1]
                   omega
               · rw[hll,World.cell?_setCell_other _ _ _ _ (by intro e;injection e with _ e2;omega)]
                 exact x0
               · rw[hff]
                 exact World.cell?_setCell_same _ _ _ x1
               · exact ht67.cell ((h6r 0).trans r0) (by show ¬ w.heap.size=w.heap.size+1;omega)
               · exact ht67.cell ((h6r 1).trans r1) (by show ¬ w.heap.size=w.heap.size+1;omega)
               · intro j
                 have h1:=hs5.f j
                 have h2:∀ q,q<w.heap.size+2→w6.frozen? ⟨q,j,none⟩=w5.frozen? ⟨q,j,none⟩:=fun q hq=>H6.out.2.frozen (p:=⟨q,j,none⟩) hq
                 rw[World.frozen?_setCell,World.frozen?_setCell,←HW7.out,World.frozen?_setCell,World.frozen?_setCell,h2 _ (by omega),h2 _ (by omega)]
                 exact h1
               · rw[hll,List.map_append]
                 have h1:=H6.out.1
                 have h2:[r.data.toList].map toB=[r]:=by show[toB r.data.toList]=[r];rw[show toB r.data.toList=r from ba_eta r]
                 rw[h2]
                 exact ht67.row h1 (fun q hq e=>by have:=(h1.lt q hq).1;omega)
               · exact hs5.bel.trans hb67
              case measure=>
               rw[World.cell?_setCell_same _ _ _ x1]
               have h1:=HS.out.c1
               rw[HN.out.1]at h1
               rw[h1]
               simp only
               omega
            · have q1:(fr.toList == p.toList)=false:=by
               rw[beq_eq_false_iff_ne,ByteArray.toList_eq,ByteArray.toList_eq]
               exact fun e=>hq (ba_ext e)
              refine bU [[27]] hH ?_
              refine eU ?_
              clear hH
              have hno:cP t=none:=by
               have h9:cF ((t.drop 8).take (nn - 1))≠t.take (7+nn):=by
                rw[← HR.out.1,←fF,HR.out.2.2.2.1,←HR.out.2.2.1]
                exact fun e=>hq (ba_ext e)
               unfold cP
               rw[HNN.out.1,if_pos (.inr (.inr (.inr (.inr h9))))]
              have HNO:=aB hno
              clear hno
              go_wp2_with fail
              exact⟨rfl,HS3.out.fell HNO.out hne HN.out.2 (congrArg Int.ofNat HN.out.1) rfl (Below.refl _ _)⟩
end
end Go.Proofs.YtpfibkgmfapnjaaGreatDoor
