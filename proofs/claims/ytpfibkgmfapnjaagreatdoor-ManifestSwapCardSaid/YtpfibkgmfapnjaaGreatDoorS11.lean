/- Manifest: right. -/
import Derived.Test.YtpfibkgmfapnjaaGreatDoorS10
set_option linter.unusedSimpArgs false
set_option linter.unusedVariables false
namespace Go.Proofs.YtpfibkgmfapnjaaGreatDoor
section
open Go.RowKit
set_option maxRecDepth 100000 in
set_option maxHeartbeats 1000000 in
theorem mright_any {w:World} {v:Value} {e:PE} (h:EdV w v e) (hl:e.fl.length≤1000000):Calls Tryz.prog 131 #[v] w fun r w'=>r= .returned (.bool (bO e))∧Below w.heap.size w w':=by
 obtain⟨av,rv,lv,nv,rfl,ha,_,hf,hn⟩:=h
 obtain⟨aa,ac,rfl,_,_⟩:=ha.form
 obtain⟨la,lc,rfl,_,_⟩:=hf.form
 obtain⟨na,nc,rfl,_,_⟩:=hn.form
 obtain⟨w1,hw1⟩:∃ w1,w.alloc (.cells #[.slice aa e.add.length ac,rv,.int .i64 e.log,.slice la e.fl.length lc,.slice na e.ns.length nc] 56)=w1:=⟨_,rfl⟩
 have hb1:Below w.heap.size w w1:=by rw[← hw1];exact(Below.refl _ _).alloc (Nat.le_refl _) _
 have hz1:w.heap.size<w1.heap.size:=by rw[← hw1];simp
 have c0:w1.cell? ⟨w.heap.size,0,none⟩=some (.slice aa e.add.length ac):=by rw[← hw1];simp[go_sem]
 have c2:w1.cell? ⟨w.heap.size,2,none⟩=some (.int .i64 e.log):=by rw[← hw1];simp[go_sem]
 have c3:w1.cell? ⟨w.heap.size,3,none⟩=some (.slice la e.fl.length lc):=by rw[← hw1];simp[go_sem]
 have c4:w1.cell? ⟨w.heap.size,4,none⟩=some (.slice na e.ns.length nc):=by rw[← hw1];simp[go_sem]
 have hcF:=contF_any (ha.below hb1)
 rw[any_not_all]at hcF
 have hcV:∀ w',Below w1.heap.size w1 w'→Calls Tryz.prog 207 #[.slice la e.fl.length lc] w' fun r w''=>r= .returned (.bool (bK e.fl))∧w'=w'':=fun w' hb=>valid_any (jS ((hf.below hb1).below hb))
 have hcN:∀ w',Below w1.heap.size w1 w'→Calls Tryz.prog 208 #[.slice na e.ns.length nc,.func (.func 209) #[] #[]] w' fun r w''=>r= .returned (.bool (!e.ns.all dB))∧Below w'.heap.size w' w'':=fun w' hb=>by
  have:=contN_any ((hn.below hb1).below hb)
  rwa [any_not_all]at this
 have HC:=aB (aA hcF (aA hcV (aA hcN hb1)))
 have hE:bO e=(e.add.all bB&&(decide (e.fl=[])||iS e.fl)&&inI e.log 0 4294967295&&e.ns.all dB):=rfl
 rw[hZ]at hE
 have HE:=aB hE
 clear hcF hcV hcN hb1 ha hf hn hE
 obtain⟨m,hm⟩:∃ m,e.fl.length=m:=⟨_,rfl⟩
 have HM:=aB hm
 rw[hm]at hl c3 HC hw1 ⊢
 clear hm
 go_enter Tryz.func131,Tryz.ntmps131
 cases hA:e.add.all bB with
 |false=>
  have hv:bO e=false:=by rw[HE.out,hA];rfl
  have HV:=aB hv
  clear hv
  go_wp2_with (first|(go_at_call 204;refine HC.out.1.mono ?_;rintro r w2 ⟨rfl,hb2⟩;rw[hA];have d2:=(hb2.cell (p:=⟨w.heap.size,2,none⟩) hz1).trans c2;have d3:=(hb2.cell (p:=⟨w.heap.size,3,none⟩) hz1).trans c3;have d4:=(hb2.cell (p:=⟨w.heap.size,4,none⟩) hz1).trans c4;have H2:=aB hb2;clear hb2 c0 c2 c3 c4 hw1))
  go_ret
  exact⟨by rw[HV.out];rfl,HC.out.2.2.2.trans (H2.out.mono HC.out.2.2.2.size)⟩
 |true=>
  by_cases h0:m=0
  · subst h0
    have hnil:e.fl=[]:=List.eq_nil_of_length_eq_zero HM.out
    have hfl:(decide (e.fl=[])||bK e.fl)=true:=by rw[decide_eq_true hnil];rfl
    have z0:¬ (0:Int)<((0:Nat):Int):=by omega
    by_cases k1:e.log<0
    · have k2:inI e.log 0 4294967295=false:=decide_eq_false (fun h=>by omega)
      have hv:bO e=false:=by rw[HE.out,hA,hfl,k2];rfl
      have HV:=aB hv
      clear hv
      go_wp2_with (first|(go_at_call 204;refine HC.out.1.mono ?_;rintro r w2 ⟨rfl,hb2⟩;rw[hA];have d2:=(hb2.cell (p:=⟨w.heap.size,2,none⟩) hz1).trans c2;have d3:=(hb2.cell (p:=⟨w.heap.size,3,none⟩) hz1).trans c3;have d4:=(hb2.cell (p:=⟨w.heap.size,4,none⟩) hz1).trans c4;have H2:=aB hb2;clear hb2 c0 c2 c3 c4 hw1))
      go_ret
      exact⟨by rw[HV.out];rfl,HC.out.2.2.2.trans (H2.out.mono HC.out.2.2.2.size)⟩
    · by_cases k3:4294967295<e.log
      · have k2:inI e.log 0 4294967295=false:=decide_eq_false (fun h=>by omega)
        have hv:bO e=false:=by rw[HE.out,hA,hfl,k2];rfl
        have HV:=aB hv
        clear hv
        go_wp2_with (first|(go_at_call 204;refine HC.out.1.mono ?_;rintro r w2 ⟨rfl,hb2⟩;rw[hA];have d2:=(hb2.cell (p:=⟨w.heap.size,2,none⟩) hz1).trans c2;have d3:=(hb2.cell (p:=⟨w.heap.size,3,none⟩) hz1).trans c3;have d4:=(hb2.cell (p:=⟨w.heap.size,4,none⟩) hz1).trans c4;have H2:=aB hb2;clear hb2 c0 c2 c3 c4 hw1))
        go_ret
        exact⟨by rw[HV.out];rfl,HC.out.2.2.2.trans (H2.out.mono HC.out.2.2.2.size)⟩
      · have k2:inI e.log 0 4294967295=true:=decide_eq_true (by omega)
        cases hD:e.ns.all dB with
        |true=>
         have hv:bO e=true:=by rw[HE.out,hA,hfl,k2,hD];rfl
         have HV:=aB hv
         clear hv
         go_wp2_with (first|(go_at_call 208;refine(HC.out.2.2.1 _ H2.out).mono ?_;rintro r w3 ⟨rfl,hb3⟩;rw[hD];have H3:=aB hb3;clear hb3)|(go_at_call 204;refine HC.out.1.mono ?_;rintro r w2 ⟨rfl,hb2⟩;rw[hA];have d2:=(hb2.cell (p:=⟨w.heap.size,2,none⟩) hz1).trans c2;have d3:=(hb2.cell (p:=⟨w.heap.size,3,none⟩) hz1).trans c3;have d4:=(hb2.cell (p:=⟨w.heap.size,4,none⟩) hz1).trans c4;have H2:=aB hb2;clear hb2 c0 c2 c3 c4 hw1))
         go_ret
         exact⟨by rw[HV.out];rfl,HC.out.2.2.2.trans ((H2.out.trans (H3.out.mono H2.out.size)).mono HC.out.2.2.2.size)⟩
        |false=>
         have hv:bO e=false:=by rw[HE.out,hA,hfl,k2,hD];rfl
         have HV:=aB hv
         clear hv
         go_wp2_with (first|(go_at_call 208;refine(HC.out.2.2.1 _ H2.out).mono ?_;rintro r w3 ⟨rfl,hb3⟩;rw[hD];have H3:=aB hb3;clear hb3)|(go_at_call 204;refine HC.out.1.mono ?_;rintro r w2 ⟨rfl,hb2⟩;rw[hA];have d2:=(hb2.cell (p:=⟨w.heap.size,2,none⟩) hz1).trans c2;have d3:=(hb2.cell (p:=⟨w.heap.size,3,none⟩) hz1).trans c3;have d4:=(hb2.cell (p:=⟨w.heap.size,4,none⟩) hz1).trans c4;have H2:=aB hb2;clear hb2 c0 c2 c3 c4 hw1))
         go_ret
         exact⟨by rw[HV.out];rfl,HC.out.2.2.2.trans ((H2.out.trans (H3.out.mono H2.out.size)).mono HC.out.2.2.2.size)⟩
  · have z0:(0:Int)<(m:Int):=by omega
    have hne:e.fl≠[]:=fun h9=>h0 (by rw[← HM.out,h9];rfl)
    cases hB:bK e.fl with
    |false=>
     have hfl:(decide (e.fl=[])||bK e.fl)=false:=by rw[decide_eq_false hne,hB];rfl
     have hv:bO e=false:=by rw[HE.out,hA,hfl];rfl
     have HV:=aB hv
     clear hv
     go_wp2_with (first|(go_at_call 207;refine(HC.out.2.1 _ H2.out).mono ?_;rintro r w' ⟨rfl,rfl⟩;rw[hB])|(go_at_call 204;refine HC.out.1.mono ?_;rintro r w2 ⟨rfl,hb2⟩;rw[hA];have d2:=(hb2.cell (p:=⟨w.heap.size,2,none⟩) hz1).trans c2;have d3:=(hb2.cell (p:=⟨w.heap.size,3,none⟩) hz1).trans c3;have d4:=(hb2.cell (p:=⟨w.heap.size,4,none⟩) hz1).trans c4;have H2:=aB hb2;clear hb2 c0 c2 c3 c4 hw1))
     go_ret
     exact⟨by rw[HV.out];rfl,HC.out.2.2.2.trans (H2.out.mono HC.out.2.2.2.size)⟩
    |true=>
     have hfl:(decide (e.fl=[])||bK e.fl)=true:=by rw[decide_eq_false hne,hB];rfl
     by_cases k1:e.log<0
     · have k2:inI e.log 0 4294967295=false:=decide_eq_false (fun h=>by omega)
       have hv:bO e=false:=by rw[HE.out,hA,hfl,k2];rfl
       have HV:=aB hv
       clear hv
       go_wp2_with (first|(go_at_call 207;refine(HC.out.2.1 _ H2.out).mono ?_;rintro r w' ⟨rfl,rfl⟩;rw[hB])|(go_at_call 204;refine HC.out.1.mono ?_;rintro r w2 ⟨rfl,hb2⟩;rw[hA];have d2:=(hb2.cell (p:=⟨w.heap.size,2,none⟩) hz1).trans c2;have d3:=(hb2.cell (p:=⟨w.heap.size,3,none⟩) hz1).trans c3;have d4:=(hb2.cell (p:=⟨w.heap.size,4,none⟩) hz1).trans c4;have H2:=aB hb2;clear hb2 c0 c2 c3 c4 hw1))
       go_ret
       exact⟨by rw[HV.out];rfl,HC.out.2.2.2.trans (H2.out.mono HC.out.2.2.2.size)⟩
     · by_cases k3:4294967295<e.log
       · have k2:inI e.log 0 4294967295=false:=decide_eq_false (fun h=>by omega)
         have hv:bO e=false:=by rw[HE.out,hA,hfl,k2];rfl
         have HV:=aB hv
         clear hv
         go_wp2_with (first|(go_at_call 207;refine(HC.out.2.1 _ H2.out).mono ?_;rintro r w' ⟨rfl,rfl⟩;rw[hB])|(go_at_call 204;refine HC.out.1.mono ?_;rintro r w2 ⟨rfl,hb2⟩;rw[hA];have d2:=(hb2.cell (p:=⟨w.heap.size,2,none⟩) hz1).trans c2;have d3:=(hb2.cell (p:=⟨w.heap.size,3,none⟩) hz1).trans c3;have d4:=(hb2.cell (p:=⟨w.heap.size,4,none⟩) hz1).trans c4;have H2:=aB hb2;clear hb2 c0 c2 c3 c4 hw1))
         go_ret
         exact⟨by rw[HV.out];rfl,HC.out.2.2.2.trans (H2.out.mono HC.out.2.2.2.size)⟩
       · have k2:inI e.log 0 4294967295=true:=decide_eq_true (by omega)
         cases hD:e.ns.all dB with
         |true=>
          have hv:bO e=true:=by rw[HE.out,hA,hfl,k2,hD];rfl
          have HV:=aB hv
          clear hv
          go_wp2_with (first|(go_at_call 208;refine(HC.out.2.2.1 _ H2.out).mono ?_;rintro r w3 ⟨rfl,hb3⟩;rw[hD];have H3:=aB hb3;clear hb3)|(go_at_call 207;refine(HC.out.2.1 _ H2.out).mono ?_;rintro r w' ⟨rfl,rfl⟩;rw[hB])|(go_at_call 204;refine HC.out.1.mono ?_;rintro r w2 ⟨rfl,hb2⟩;rw[hA];have d2:=(hb2.cell (p:=⟨w.heap.size,2,none⟩) hz1).trans c2;have d3:=(hb2.cell (p:=⟨w.heap.size,3,none⟩) hz1).trans c3;have d4:=(hb2.cell (p:=⟨w.heap.size,4,none⟩) hz1).trans c4;have H2:=aB hb2;clear hb2 c0 c2 c3 c4 hw1))
          go_ret
          exact⟨by rw[HV.out];rfl,HC.out.2.2.2.trans ((H2.out.trans (H3.out.mono H2.out.size)).mono HC.out.2.2.2.size)⟩
         |false=>
          have hv:bO e=false:=by rw[HE.out,hA,hfl,k2,hD];rfl
          have HV:=aB hv
          clear hv
          go_wp2_with (first|(go_at_call 208;refine(HC.out.2.2.1 _ H2.out).mono ?_;rintro r w3 ⟨rfl,hb3⟩;rw[hD];have H3:=aB hb3;clear hb3)|(go_at_call 207;refine(HC.out.2.1 _ H2.out).mono ?_;rintro r w' ⟨rfl,rfl⟩;rw[hB])|(go_at_call 204;refine HC.out.1.mono ?_;rintro r w2 ⟨rfl,hb2⟩;rw[hA];have d2:=(hb2.cell (p:=⟨w.heap.size,2,none⟩) hz1).trans c2;have d3:=(hb2.cell (p:=⟨w.heap.size,3,none⟩) hz1).trans c3;have d4:=(hb2.cell (p:=⟨w.heap.size,4,none⟩) hz1).trans c4;have H2:=aB hb2;clear hb2 c0 c2 c3 c4 hw1))
          go_ret
          exact⟨by rw[HV.out];rfl,HC.out.2.2.2.trans ((H2.out.trans (H3.out.mono H2.out.size)).mono HC.out.2.2.2.size)⟩
end
end Go.Proofs.YtpfibkgmfapnjaaGreatDoor
