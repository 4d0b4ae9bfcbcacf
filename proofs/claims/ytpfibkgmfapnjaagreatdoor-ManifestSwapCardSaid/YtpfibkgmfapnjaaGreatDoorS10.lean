/- Manifest: the notes behind an edit. -/
import Derived.Test.YtpfibkgmfapnjaaGreatDoorS9
import Derived.Test.YtpfibkgmfapnjaaGreatDoorS3
import Derived.Test.YtpfibkgmfapnjaaGreatDoorS7
import Derived.WalkSpells
import Derived.Test.YtpfibkgmfapnjaaGreatDoorS6
import Derived.Test.YtpfibkgmfapnjaaGreatDoorGaS
import Derived.Test.YtpfibkgmfapnjaaGreatDoorS2
set_option linter.unusedSimpArgs false
set_option linter.unusedVariables false
namespace Go.Proofs.YtpfibkgmfapnjaaGreatDoor
section
open Go.RowKit
theorem und_mapN:Tryz.prog.underlying 181=some (.map 9 9):=Tryz.underlying181
theorem iH (l:List KV) (i:Nat) (hi:i<l.length):aG (aU (l.take i)) l[i].1 l[i].2=aU (l.take (i+1)):=by
 rw[List.take_succ_eq_append_getElem hi,fU]
theorem baseN_len (l:List KV):(aU l).length≤l.length:=by
 have h:∀ i,i≤l.length→(aU (l.take i)).length≤i:=by
  intro i
  induction i with
  |zero=>intro _;rw[List.take_zero];exact Nat.le_refl _
  |succ i ih=>
   intro hi
   rw[← iH l i hi]
   exact Nat.le_trans cA.1 (Nat.succ_le_succ (ih (by omega)))
 have:=h l.length (Nat.le_refl _)
 rwa [List.take_length]at this
def fT (l:List KV):List KV:=l.filter (fun p=>decide (p.2.size≠0))
theorem lQ (a b:List KV):fT (a++b)=fT a++fT b:=List.filter_append a b
theorem filN_drop {p:KV} (h:p.2.size=0) (l:List KV):fT (p::l)=fT l:=List.filter_cons_of_neg (by rw[decide_eq_true_iff];exact fun h2=>h2 h)
theorem filN_keep {p:KV} (h:p.2.size≠0) (l:List KV):fT (p::l)=p::fT l:=List.filter_cons_of_pos (by rw[decide_eq_true_iff];exact h)
def NotAns (s:PS) (e:PE) (w:World) (r:Ending) (w':World):Prop:=
 Below w.heap.size w w'∧∃ v,r= .returned v∧bE eNt w' w.heap.size v (aZ s.ns e.ns)
set_option maxRecDepth 100000 in
set_option maxHeartbeats 4000000 in
theorem notes_any {w:World} {sv ev:Value} {s:PS} {e:PE} (hs:StV w sv s) (he:EdV w ev e) (hn:s.ns.length≤400000) (hm:e.ns.length≤400000) (hsz:∀ p,p∈s.ns++e.ns→p.1.size≤1000000000∧p.2.size≤1000000000):
 Calls Tryz.prog 134 #[sv,ev] w (NotAns s e w):=by
 obtain⟨fv,lv,nv,rfl,hs1,hs2,hs3⟩:=hs
 obtain⟨av,rv,lv',nv',rfl,he1,he2,he3,he4⟩:=he
 obtain⟨na,nc,rfl,_,_⟩:=hs3.form
 obtain⟨na',nc',rfl,_,_⟩:=he4.form
 obtain⟨q1,hq1⟩:∃ q,s.ns.length=q:=⟨_,rfl⟩
 obtain⟨q2,hq2⟩:∃ q,e.ns.length=q:=⟨_,rfl⟩
 rw[hq1]at hs3 ⊢
 rw[hq2]at he4 ⊢
 obtain⟨L,hL⟩:∃ L,s.ns++e.ns=L:=⟨_,rfl⟩
 obtain⟨n,hnn⟩:∃ n,L.length=n:=⟨_,rfl⟩
 have hnl:n≤800000:=by rw[← hnn,←hL,List.length_append];omega
 obtain⟨w1,hw1⟩:∃ w1,w.alloc (.cells #[fv,.int .i64 s.next,.int .i64 s.log,lv,.slice na q1 nc] 35)=w1:=⟨_,rfl⟩
 obtain⟨w2,hw2⟩:∃ w2,w1.alloc (.cells #[av,rv,.int .i64 e.log,lv' ,.slice na' q2 nc'] 56)=w2:=⟨_,rfl⟩
 have hb2:Below w.heap.size w w2:=by rw[← hw2,←hw1];exact((Below.refl _ _).alloc (Nat.le_refl _) _).alloc (by simp) _
 have hz1:w1.heap.size=w.heap.size+1:=by rw[← hw1];simp
 have hz2:w2.heap.size=w.heap.size+2:=by rw[← hw2,←hw1];simp
 have c4:w2.cell? ⟨w.heap.size,4,none⟩=some (.slice na q1 nc):=by rw[← hw2,←hw1];simp[go_sem]
 have d4:w2.cell? ⟨w1.heap.size,4,none⟩=some (.slice na' q2 nc'):=by rw[← hw2];simp[go_sem]
 obtain⟨w3,hw3⟩:∃ w3,w2.alloc (.map #[] 0)=w3:=⟨_,rfl⟩
 have hm3:aL kW Value.string w3 w2.heap.size ([]:List KV):=by rw[← hw3];exact aL.made w2
 have hb3:Below w2.heap.size w2 w3:=by rw[← hw3];exact(Below.refl _ _).alloc (Nat.le_refl _) _
 have hmk:(Instr.makeMap 181 none).run Tryz.prog w2= .ok (.map (some w2.heap.size)) w3:=by rw[← hw3];rfl
 have g4:=(hb3.cell (p:=⟨w.heap.size,4,none⟩) (World.block_lt_of_cell? _ _ c4)).trans c4
 have f4:=(hb3.cell (p:=⟨w1.heap.size,4,none⟩) (World.block_lt_of_cell? _ _ d4)).trans d4
 have hz3:w3.heap.size=w2.heap.size+1:=by rw[← hw3];simp
 obtain⟨w4,hw4⟩:∃ w4,w3.alloc (.cells #[.slice na q1 nc,.slice na' q2 nc'] 33)=w4:=⟨_,rfl⟩
 have hb4:Below w3.heap.size w3 w4:=by rw[← hw4];exact(Below.refl _ _).alloc (Nat.le_refl _) _
 have hb24:Below w2.heap.size w2 w4:=hb3.trans (hb4.mono (by omega))
 have k0:w4.cell? ⟨w3.heap.size,0,none⟩=some (.slice na q1 nc):=by rw[← hw4];simp[go_sem]
 have k1:w4.cell? ⟨w3.heap.size,1,none⟩=some (.slice na' q2 nc'):=by rw[← hw4];simp[go_sem]
 have hb04:Below w.heap.size w w4:=hb2.trans (hb24.mono hb2.size)
 have hcc:=concat_any (c:=2) k0 k1 (hs3.below hb04) (he4.below hb04) (by omega) (by omega)
 rw[hL]at hcc hsz
 obtain⟨mb,hmb⟩:∃ mb,w2.heap.size=mb:=⟨_,rfl⟩
 rw[hmb]at hm3 hmk
 have HM:=aB (aA (hm3.below hb4) (aA hmb (aA hz1 (aA hz2 (aA hz3 hb4.size)))))
 have hcd:Calls Tryz.prog 216 #[.slice (some ⟨w3.heap.size,0,none⟩) 2 2] w4 fun r w'=>∃ a c,r= .returned (.slice a n c)∧Below w4.heap.size w4 w'∧bE eNt w' w4.heap.size (.slice a n c) L:=by
  refine hcc.mono ?_
  rintro r w' ⟨hb,v,rfl,ho⟩
  obtain⟨a,c,rfl,_,_⟩:=aI ho
  rw[hnn]at ho
  exact⟨a,c,by rw[hnn],hb,by rw[← hnn]at ho ⊢;exact ho⟩
 have HC:=aB hcd
 have H0:=aB (aA hb04 (aA hsz (aA hL hnn)))
 clear hmb hm3 hb3 hb4 hb24 hb04 hs1 hs2 hs3 he1 he2 he3 he4 hn hm hsz hL hcc hcd hb2 c4 d4 k0 k1 hz1 hz2 hz3 hnn hq1 hq2
 go_enter Tryz.func134,Tryz.ntmps134
 go_wp2_with (go_at_call 216;refine HC.out.mono ?_;rintro r w5 ⟨va,vc,rfl,hb5,ho5⟩;have H5:=aB (aA hb5 ho5);clear hb5 ho5)
 clear hw1 hw2 hw3 hw4 g4 f4 hmk
 have hmw:mb<w4.heap.size:=by have:=HM.out.2.1;have:=HM.out.2.2.2.2.1;have:=HM.out.2.2.2.2.2;omega
 have HMW:=aB hmw
 clear hmw
 go_loopw [19] (fun y wr=>∃ i:Nat,i≤n∧y= .int .i64 (i:Int)∧aL kW Value.string wr mb (aU (L.take i))∧Tn (fun q=>q=mb) w5 wr) (fun y _=>n - (intOf y).toNat)
 case atStart=>exact⟨0,by omega,rfl,HM.out.1.below H5.out.1,Tn.refl _ _⟩
 case round=>
  obtain⟨i,hi,rfl,hm,ht⟩:=hrel
  by_cases hlt:i<n
  · have hil:i<L.length:=by rw[H0.out.2.2.2];exact hlt
    have ho:=H5.out.2
    obtain⟨b,off,hab,hbl,c0,c1⟩:=cY ho.rda hil
    subst hab
    have hbb:¬ b=mb:=by have:=(ho.lt b rfl).1;have:=HMW.out;omega
    have e0:=ht.cell (p:=⟨b,off+i*2,none⟩) c0 hbb
    have e1:=ht.cell (p:=⟨b,off+i*2+1,none⟩) c1 hbb
    have hbase:=iH L i hil
    obtain⟨A,hA⟩:∃ A,L[i]=A:=⟨_,rfl⟩
    rw[hA]at e0 e1 hbase
    obtain⟨kp,vp⟩:=A
    simp only at e0 e1 hbase
    obtain⟨w6,hw6⟩:∃ w6,wr.alloc (.cells #[.string kp,.string vp] 74)=w6:=⟨_,rfl⟩
    have p0:w6.cell? ⟨wr.heap.size,0,none⟩=some (.string kp):=by rw[← hw6];simp[go_sem]
    have p1:w6.cell? ⟨wr.heap.size,1,none⟩=some (.string vp):=by rw[← hw6];simp[go_sem]
    have hb6:Below wr.heap.size wr w6:=by rw[← hw6];exact(Below.refl _ _).alloc (Nat.le_refl _) _
    have H6:=aB (aA (hm.below hb6) (aA (ht.trans (Tn.ofBelow hb6)) hbase))
    have z0:(i:Int)<(n:Int):=by omega
    have z1:(0:Int)≤(i:Int):=by omega
    clear c0 c1 hm ht hb6 hbase hA hbb ho hbl
    go_wp2_with (at_mapUpdate;refine kZ rfl _ _ _ rfl keyN und_mapN rfl H6.out.1 kp rfl vp rfl ?_;intro w7 hm7 ht7 hz7;have H7:=aB (aA hm7 ht7);clear hm7 ht7)
    go_roundw
    case rel=>exact⟨i+1,by omega,by go_num,by rw[← H6.out.2.2];exact H7.out.1,H6.out.2.1.trans H7.out.2⟩
    case measure=>simp[intOf];omega
  · obtain rfl:i=n:=by omega
    have hfull:L.take i=L:=by rw[← H0.out.2.2.2];exact List.take_length
    rw[hfull]at hm
    obtain⟨wd,rfl⟩:∃ wd,wd=wr:=⟨_,rfl⟩
    have HS:=aB (aA hm ht)
    have z0:¬ (i:Int)<(i:Int):=by omega
    have hmr:mb<wd.heap.size:=hm.lt
    have hbd:Below w.heap.size w wd:=(H0.out.1.trans (H5.out.1.mono H0.out.1.size)).trans (ht.below (by have:=H0.out.1.size;have:=H5.out.1.size;omega) (fun q hq=>by have:=HM.out.2.1;have:=HM.out.2.2.1;have:=HM.out.2.2.2.1;omega))
    have HBD:=aB hbd
    clear hm ht hbd hfull
    go_wp2_with (at_range;refine jM rfl _ rfl und_mapN rfl (show eS kW Value.string _ (some mb) (aU L) from HS.out.1) ?_;intro w8 hr8 hb8 hz8;have H8:=aB (aA hr8 hb8);clear hr8 hb8)
    try go_frame
    go_loopw [8,31] (fun o _ wr=>∃ (todo M:List KV),gZ kW Value.string wr (some mb) wd.heap.size (aU L) todo∧bE eNt wr (wd.heap.size+1) o M∧(M++fT todo).Perm (fT (aU L))∧Below wd.heap.size wd wr∧wd.heap.size+1≤wr.heap.size) (fun _ _ wr=>leftN wr (some mb) wd.heap.size)
    case atStart=>exact⟨aU L,[],H8.out.1,World.ownsRow_nil _ _ _ _,by simp,H8.out.2,by omega⟩
    case round=>
     obtain⟨todo,M,hr,ho,hp,hb,hzr⟩:=hrel
     have hMl:M.length≤800000:=by
      have h1:=hp.length_eq
      rw[List.length_append]at h1
      have h2:(fT (aU L)).length≤(aU L).length:=List.length_filter_le _ _
      have h3:=baseN_len L
      have:=H0.out.2.2.2
      omega
     have HRN:=aB (aA hr (aA ho (aA hp (aA hb hzr))))
     clear hr ho hp hb
     go_wp2_with (at_next;refine lA rfl _ rfl rfl HRN.out.1 ?_ ?_)
     · intro h0
       have hpm:M.Perm (fT (aU L)):=by
        have:=HRN.out.2.2.1
        rw[h0]at this
        simpa[fT]using this
       have hnd:((fT (aU L)).map (·.1)).Nodup:=by rw[← H0.out.2.2.1];exact notesF_nd _ _
       have hndM:(M.map (·.1)).Nodup:=((hpm.map _).nodup_iff).2 hnd
       have heq:lF M=aZ s.ns e.ns:=by
        unfold aZ
        rw[H0.out.2.2.1]
        exact jN LtN.irrefl (fun _ _=>LtN.asymm) (jO hndM) (jO hnd) (fun x=>(dZ _).mem_iff.trans (hpm.mem_iff.trans (dZ _).mem_iff.symm))
       have hsrt:=sortNt_any HRN.out.2.1 hndM (by omega) HRN.out.2.2.2.2
       have HSO:=aB (aA heq hsrt)
       clear h0 hpm hnd hndM heq hsrt
       go_wp2_with (go_at_call 217;refine HSO.out.2.mono ?_;rintro r w12 ⟨rfl,ho12,ht12⟩;have H12:=aB (aA ho12 ht12);clear ho12 ht12)
       go_ret
       have hsz:=HBD.out.size
       have h12:Below wd.heap.size wd w12:=HRN.out.2.2.2.1.trans (H12.out.2.below HRN.out.2.2.2.1.size (fun q hq=>by have:=(HRN.out.2.1.lt q hq).1;omega))
       refine⟨HBD.out.trans (h12.mono hsz),_,rfl,?_⟩
       rw[← HSO.out.1]
       exact aK H12.out.1 (by omega)
     · intro pre kp vp post w9 htd hr9 ht9 hz9 hen
       try simp only[kW]at hen
       have ho9:bE eNt w9 (wd.heap.size+1) u8 M:=ht9.row HRN.out.2.1 (fun q hq h9=>by have:=(HRN.out.2.1.lt q hq).1;omega)
       have hb9:Below wd.heap.size wd w9:=HRN.out.2.2.2.1.trans (ht9.below HRN.out.2.2.2.1.size (fun k hk=>by omega))
       have hzz:wd.heap.size+1≤w9.heap.size:=by omega
       have H9:=aB (aA hr9 (aA ho9 (aA hb9 htd)))
       clear hr9 ht9 ho9 hb9 htd hz9
       try simp only[kW]
       by_cases hv0:vp.size=0
       · have s1:=jX hv0
         go_wp2_with fail
         go_roundw
         case rel=>
          refine⟨pre++post,M,H9.out.1,H9.out.2.1,?_,H9.out.2.2.1,hzz⟩
          have h1:=HRN.out.2.2.1
          rw[H9.out.2.2.2]at h1
          have h2:fT (pre++(kp,vp)::post)=fT (pre++post):=by rw[lQ,lQ,filN_drop (p:=(kp,vp)) hv0]
          rwa [h2]at h1
         case measure=>
          rw[H9.out.1.left,HRN.out.1.left,H9.out.2.2.2]
          simp
       · have s1:=emp_no hv0
         have hmem:(kp,vp)∈fT (aU L):=by
          refine HRN.out.2.2.1.mem_iff.1 (List.mem_append_right _ ?_)
          rw[H9.out.2.2.2]
          unfold fT
          exact List.mem_filter.2 ⟨by simp,by simpa using hv0⟩
         obtain⟨hc1,hc2⟩:=H0.out.2.1 (kp,vp) (kD (List.mem_filter.1 hmem).1)
         simp only at hc1 hc2
         clear hmem
         go_wp2_with (first
          |(at_builtin;refine fK eNt rfl _ _ rfl rfl rfl (l:=M) (l2:=[((kp,vp):KV)]) (B:=wd.heap.size+1) (aD (aD (aD H9.out.2.1 H10.out) H11.out) ((Below.refl _ _).alloc (Nat.le_refl _) _)) (eW (e:=eNt) w11 ((kp,vp):KV) _ _ rfl _) (by simp;omega) (by have:=H10.out.size;have:=H11.out.size;simp;omega) ?_;intro a' cp' w13 ho13 hb13 hg13 hd13;have H13:=aB (aA ho13 hb13);clear ho13 hb13 hg13 hd13)
          |(go_at_call 31;refine(cB _ kp (by omega)).mono ?_;rintro r w10 ⟨rfl,hb10⟩;have H10:=aB hb10;clear hb10)
          |(go_at_call 31;refine(cB _ vp (by omega)).mono ?_;rintro r w11 ⟨rfl,hb11⟩;have H11:=aB hb11;clear hb11))
         have hbb:Below (wd.heap.size+1) w9 w13:=(((H10.out.mono hzz).trans (H11.out.mono (by have:=H10.out.size;omega))).trans ((Below.refl (wd.heap.size+1) w11).alloc (by have:=H10.out.size;have:=H11.out.size;omega) _)).trans H13.out.2
         have hr13:=H9.out.1.tn (iV hbb) (fun b hb=>by injection hb with hb;omega) (by omega)
         have HF:=aB (aA hbb hr13)
         clear hbb hr13
         go_roundw
         case rel=>
          refine⟨pre++post,M++[(kp,vp)],HF.out.2,H13.out.1,?_,H9.out.2.2.1.trans (HF.out.1.mono (by omega)),by have:=HF.out.1.size;omega⟩
          refine List.Perm.trans ?_ HRN.out.2.2.1
          rw[H9.out.2.2.2]
          have h2:fT (pre++(kp,vp)::post)=fT pre++(kp,vp)::fT post:=by rw[lQ,filN_keep (p:=(kp,vp)) hv0]
          have h3:fT (pre++post)=fT pre++fT post:=lQ _ _
          rw[h2,h3,List.append_assoc]
          refine List.Perm.append_left _ ?_
          rw[List.singleton_append]
          exact List.perm_middle.symm
         case measure=>
          rw[HF.out.2.left,HRN.out.1.left,H9.out.2.2.2]
          simp
end
section
open Go.RowKit
def RdI (w:World) (x:Value) (l:List Int):Prop:=∃ a c,x= .slice a l.length c∧(l=[]∨∃ b off,a=some ⟨b,off,none⟩∧b<w.heap.size∧∀ i (hi:i<l.length),w.cell? ⟨b,off+i,none⟩=some (.int .i64 l[i]))
theorem info_int:(Tryz.prog.info? 3).map (fun i=>(i.zero,i.size,i.bytes))=some (some (.int .i64 0),1,8):=by kernel_rfl
theorem eVec:kJ Tryz.prog 32 3 1 8 (fun k:Int=>[.int .i64 k]) where
 und:=Tryz.underlying32
 info:=by
  obtain⟨i0,hi0,hz0,hs0,hy0⟩:=info_parts info_int
  exact⟨i0,_,hi0,hz0,hs0,hy0,rfl⟩
 pos:=by decide
 few:=by decide
 len _:=rfl
 one:=by
  intro x u hu
  rw[List.mem_singleton]at hu
  subst hu
  rfl
def rightB (ttl now:Int):Bool:=decide (1≤ttl∧ttl≤2147483647∧0≤now∧now<281474976710656)
def tillZ (ttl now:Int):Int:=min (now+ttl) 281474976710656
def okT (t:Int):Bool:=decide (0≤t∧t<281474976710656)
theorem valid1_any (t:Int) (w:World):Calls Tryz.prog 269 #[.int .i64 t] w fun e w'=>e= .returned (.bool (!okT t))∧w=w':=by
 go_enter Tryz.func269,Tryz.ntmps269
 by_cases h1:t<(0:Int)
 · go_wp2
   go_ret
   refine⟨?_,rfl⟩
   have:okT t=false:=by simp[okT];omega
   rw[this]
   rfl
 · by_cases h2:(281474976710656:Int)≤t
   · go_wp2
     go_ret
     refine⟨?_,rfl⟩
     have:okT t=false:=by simp[okT];omega
     rw[this]
     rfl
   · go_wp2
     go_ret
     refine⟨?_,rfl⟩
     have:okT t=true:=by simp[okT];omega
     rw[this]
     rfl
def vIdxE (l:List Int) (e:Ending):Prop:=∃ n:Int,e= .returned (.int .i64 n)∧((l.all okT=true∧n= -1)∨(l.all okT=false∧0≤n))
set_option maxRecDepth 100000 in
set_option maxHeartbeats 1000000 in
theorem vindex_any {w:World} {x:Value} {l:List Int} (h:RdI w x l) (hl:l.length≤1000000):
 Calls Tryz.prog 312 #[x,.func (.func 269) #[] #[]] w fun e w'=>vIdxE l e∧w'=w:=by
 obtain⟨a,c,rfl,h1⟩:=h
 obtain⟨n,hn⟩:∃ n,n=l.length:=⟨_,rfl⟩
 rw[← hn]at hl ⊢
 have HN:=aB hn
 have H:=aB h1
 clear hn h1
 go_enter Tryz.func312,Tryz.ntmps312
 go_wp2
 go_loopw [5,8] (fun _ iv wr=>∃ i:Nat,i≤n∧iv= .int .i64 (i:Int)∧(l.take i).all okT=true∧wr=w) (fun _ iv _=>n - (intOf iv).toNat)
 case atStart=>exact⟨0,by omega,rfl,by simp,rfl⟩
 case round=>
  obtain⟨i,hi,rfl,hall,rfl⟩:=hrel
  have HB:=aB hall
  clear hall
  by_cases hlt:i<n
  · have hil:i<l.length:=by have:=HN.out;omega
    obtain⟨b1,o1,rfl,l1,k1⟩:=H.out.resolve_left (fun e=>by rw[e]at hil;simp at hil)
    have d1:=k1 i hil
    obtain⟨u,hu⟩:∃ u,l[i]=u:=⟨_,rfl⟩
    rw[hu]at d1
    have hW:=valid1_any u
    obtain⟨nb,hnb⟩:∃ nb,okT u=nb:=⟨_,rfl⟩
    rw[hnb]at hW
    have htk:l.take (i+1)=l.take i++[u]:=by rw[List.take_succ_eq_append_getElem hil,hu]
    have HX:=aB (aA htk (aA hnb hu))
    have r1:(i:Int)<(n:Int):=by omega
    clear k1 hu htk hnb
    cases nb
    · simp only[Bool.not_false]at hW
      go_wp2_with (go_at_call 269;refine(hW _).mono ?_;rintro e w1 ⟨rfl,rfl⟩)
      go_ret
      refine⟨⟨i,rfl,.inr ⟨?_,by omega⟩⟩,rfl⟩
      rw[Bool.eq_false_iff]
      intro h
      have:=List.all_eq_true.1 h u (HX.out.2.2▸List.getElem_mem hil)
      rw[HX.out.2.1]at this
      cases this
    · simp only[Bool.not_true]at hW
      go_wp2_with (go_at_call 269;refine(hW _).mono ?_;rintro e w1 ⟨rfl,rfl⟩)
      go_roundw
      case rel=>exact⟨i+1,by omega,by go_num,by rw[HX.out.1,List.all_append,HB.out];simp[HX.out.2.1],by first|rfl|trivial⟩
      case measure=>simp[intOf];omega
  · obtain rfl:i=n:=by omega
    go_wp2
    go_ret
    refine⟨⟨-1,rfl,.inl ⟨?_,rfl⟩⟩,rfl⟩
    have:=HB.out
    rw[HN.out,List.take_length]at this
    exact this
theorem vcontains_any {w:World} {x:Value} {l:List Int} (h:RdI w x l) (hl:l.length≤1000000):
 Calls Tryz.prog 268 #[x,.func (.func 269) #[] #[]] w fun e w'=>e= .returned (.bool (!l.all okT))∧w=w':=by
 have hI:=vindex_any h hl
 obtain⟨b,hb⟩:∃ b,l.all okT=b:=⟨_,rfl⟩
 rw[hb]
 have HB:=aB hb
 clear hb h hl
 go_enter Tryz.func268,Tryz.ntmps268
 go_wp2_with fail
 refine hI.mono ?_
 rintro e w1 ⟨⟨n,rfl,hn⟩,rfl⟩
 rw[HB.out]at hn
 clear hI
 rcases hn with⟨rfl,rfl⟩|⟨rfl,hn⟩
 · go_wp2
   go_ret
   exact⟨rfl,rfl⟩
 · go_wp2
   go_ret
   exact⟨rfl,rfl⟩
def bK (l:List Int):Bool:=decide (1≤l.length∧l.length≤8)&&l.all okT
set_option maxRecDepth 100000 in
theorem valid_any {w:World} {x:Value} {l:List Int} (h:RdI w x l):Calls Tryz.prog 207 #[x] w fun e w'=>e= .returned (.bool (bK l))∧w=w':=by
 have hC:=fun hl=>vcontains_any h hl
 obtain⟨a,c,rfl,-⟩:=h
 obtain⟨n,hn⟩:∃ n,l.length=n:=⟨_,rfl⟩
 rw[hn]at hC ⊢
 by_cases h1:1≤n
 · have t1:(1:Int)≤(n:Int):=by omega
   by_cases h2:n≤8
   · have t2:(n:Int)≤8:=by omega
     have hC:=hC (by omega)
     obtain⟨b,hb⟩:∃ b,l.all okT=b:=⟨_,rfl⟩
     have hv:bK l=b:=by unfold bK;rw[hn,hb,decide_eq_true ⟨h1,h2⟩];simp
     rw[hb]at hC
     rw[hv]
     clear hv hb hn h1 h2
     cases b
     · simp only[Bool.not_false]at hC
       go_enter Tryz.func207,Tryz.ntmps207
       go_wp2_with (go_at_call 268;refine hC.mono ?_;rintro e w1 ⟨rfl,rfl⟩)
       go_ret
       exact⟨rfl,rfl⟩
     · simp only[Bool.not_true]at hC
       go_enter Tryz.func207,Tryz.ntmps207
       go_wp2_with (go_at_call 268;refine hC.mono ?_;rintro e w1 ⟨rfl,rfl⟩)
       go_ret
       exact⟨rfl,rfl⟩
   · have t2:¬ (n:Int)≤8:=by omega
     have hv:bK l=false:=by unfold bK;rw[hn,decide_eq_false (by omega)];simp
     rw[hv]
     clear hv hn h1 h2 hC
     go_enter Tryz.func207,Tryz.ntmps207
     go_wp2
     go_ret
     exact⟨rfl,rfl⟩
 · have t1:¬ (1:Int)≤(n:Int):=by omega
   have hv:bK l=false:=by unfold bK;rw[hn,decide_eq_false (by omega)];simp
   rw[hv]
   clear hv hn h1 hC
   go_enter Tryz.func207,Tryz.ntmps207
   go_wp2
   go_ret
   exact⟨rfl,rfl⟩
end
section
open Go.RowKit
theorem qVec (w:World) (a:Option Addr) (n c n' c':Nat):(binOp .eql 32 (.slice a n c) (.slice none n' c')).run Tryz.prog w= .ok (.bool a.isNone) w:=Lib.run_eql_slice_nil w _ _ a n c n' c' Tryz.underlying32
theorem own_empty (w:World):bE eVec (w.alloc (.cells #[] 3)) w.heap.size (.slice (some ⟨w.heap.size,0,none⟩) 0 0) []:=
 ⟨rfl,.inr ⟨w.heap.size,0,#[],rfl,Nat.le_refl _,heap_alloc_new w _,Nat.le_refl _,Nat.zero_le _,rfl,rfl⟩⟩
set_option maxRecDepth 100000 in
theorem vclone_any {w:World} {x:Value} {l:List Int} (h:RdI w x l) (hl:l.length≤1000000):Calls Tryz.prog 133 #[x] w fun e w'=>∃ a c,e= .returned (.slice a l.length c)∧bE eVec w' w.heap.size (.slice a l.length c) l∧Below w.heap.size w w':=by
 obtain⟨a,c,rfl,h⟩:=h
 have hq:=qVec
 cases a with
 |none=>
  have h0:l=[]:=h.resolve_right (by rintro⟨b,off,e,_⟩;cases e)
  subst h0
  go_enter Tryz.func133,Tryz.ntmps133
  go_wp2_with fail
  go_ret
  exact⟨none,0,rfl,World.ownsRow_nil _ _ _ _,Below.refl _ _⟩
 |some ad=>
  have hsrc:Src eVec w (.slice (some ad) l.length c) l:=by
   refine .inr ⟨ad,c,rfl,fun j u hj=>?_⟩
   rcases h with rfl|⟨b,off,e,hlt,hc⟩
   · simp at hj
   · injection e with e
     subst e
     have hjl:j<l.length:=by have:=(List.getElem?_eq_some_iff.1 hj).1;rw[eVec.lens]at this;omega
     have h5:=eVec.get l j 0 hjl (by omega)
     rw[Nat.mul_one,Nat.add_zero]at h5
     rw[h5]at hj
     rw[lY,hc j hjl,←hj]
     rfl
  obtain⟨W1,hW1⟩:∃ W1,w.alloc (.cells #[] 3)=W1:=⟨_,rfl⟩
  have ho1:bE eVec W1 w.heap.size (.slice (some ⟨w.heap.size,0,none⟩) 0 0) []:=by rw[← hW1];exact own_empty w
  have hb1:Below w.heap.size w W1:=by rw[← hW1];exact(Below.refl _ _).alloc (Nat.le_refl _) _
  have hz1:w.heap.size≤W1.heap.size:=hb1.size
  have hs1:Src eVec W1 (.slice (some ad) l.length c) l:=by
   refine .inr ⟨ad,c,rfl,fun j u hj=>?_⟩
   have h7:w.cell? (ad.add j)=some u:=by
    rcases hsrc with⟨e,_⟩|⟨ad',c',e,h7⟩
    · cases e
    · injection e with e1 e2 e3
      injection e1 with e1
      subst e1
      exact h7 j u hj
   exact(hb1.cell (World.block_lt_of_cell? _ _ h7)).trans h7
  have H:=aB (aA ho1 (aA hs1 (aA hb1 hz1)))
  obtain⟨n,hn⟩:∃ n,l.length=n:=⟨_,rfl⟩
  rw[hn]at hl H ⊢
  have HN:=aB hn
  clear h hsrc ho1 hb1 hz1 hs1 hn
  go_enter Tryz.func133,Tryz.ntmps133
  go_wp2_with (at_builtin;go_loud (refine fK eVec (l:=[]) rfl _ _ rfl rfl rfl H.out.1 H.out.2.1 (by simp;rw[HN.out];omega) H.out.2.2.2 ?_);intro a3 cap3 w3 ho3 hb3 _ _;have H3:=aB (aA ho3 (H.out.2.2.1.trans hb3));clear ho3 hb3)
  go_ret
  have h5:=H3.out.1
  rw[List.nil_append,show([]:List Int).length+l.length=n by rw[HN.out];simp]at h5
  exact⟨a3,cap3,by rw[HN.out];rfl,h5,H3.out.2⟩
def meetV (a b:List Int):List Int:=List.zipWith min a b
def leqV (a b:List Int):Prop:=a.length=b.length∧∀ i (h:i<a.length) (h2:i<b.length),a[i]≤b[i]
set_option maxRecDepth 100000 in
theorem leq_any {w:World} {x y:Value} {a b:List Int} (hx:RdI w x a) (hy:RdI w y b) (h:leqV a b) (hl:a.length≤1000000):
 Calls Tryz.prog 36 #[x,y] w fun e w'=>e= .returned (.bool true)∧∃ k,w'=w.drewN k:=by
 obtain⟨a1,c1,rfl,h1⟩:=hx
 obtain⟨a2,c2,rfl,h2⟩:=hy
 obtain⟨n,hn⟩:∃ n,a.length=n:=⟨_,rfl⟩
 rw[← h.1,hn]
 rw[hn]at hl
 have HN:=aB (aA hn h)
 have H:=aB (aA h1 h2)
 have t0:((n:Int) != (n:Int))=false:=by simp
 clear h1 h2 hn h
 go_enter Tryz.func36,Tryz.ntmps36
 go_wp2
 go_loopw [5] (fun iv wr=>∃ i:Nat,i≤n∧iv= .int .i64 (i:Int)∧∃ k,wr=w.drewN k) (fun iv _=>n - (intOf iv).toNat)
 case atStart=>exact⟨0,by omega,rfl,0,rfl⟩
 case round=>
  obtain⟨i,hi,rfl,k,rfl⟩:=hrel
  by_cases hlt:i<n
  · have hil:i<a.length:=by have:=HN.out.1;omega
    have hil2:i<b.length:=by have:=HN.out.2.1;omega
    obtain⟨b1,o1,rfl,l1,k1⟩:=H.out.1.resolve_left (fun e=>by rw[e]at hil;simp at hil)
    obtain⟨b2,o2,rfl,l2,k2⟩:=H.out.2.resolve_left (fun e=>by rw[e]at hil2;simp at hil2)
    have d1:=k1 i hil
    have d2:=k2 i hil2
    have hle:=HN.out.2.2 i hil hil2
    obtain⟨u,hu⟩:∃ u,a[i]=u:=⟨_,rfl⟩
    obtain⟨v,hv⟩:∃ v,b[i]=v:=⟨_,rfl⟩
    rw[hu]at d1 hle
    rw[hv]at d2 hle
    have t1:¬ v<u:=by omega
    have hbl:n=b.length:=by have:=HN.out.1;have:=HN.out.2.1;omega
    have r1:(i:Int)<(n:Int):=by omega
    have HBL:=aB hbl
    clear k1 k2 hu hv hle hbl
    go_wp2
    go_quiet (fail)
    go_wp2
    go_roundw
    case rel=>exact⟨i+1,by omega,by go_num,_,rfl⟩
    case measure=>simp[intOf];omega
  · obtain rfl:i=n:=by omega
    go_wp2
    go_ret
    exact⟨rfl,_,rfl⟩
end
section
open Go.RowKit Go.Shelf
theorem jS {w:World} {x:Value} {l:List Int} (h:RdZ w x l):RdI w x l:=by
 obtain⟨a,c,rfl,_,_,_,h5⟩:=h
 refine⟨a,c,rfl,h5.imp id ?_⟩
 rintro⟨b,off,ha,hlt,hc⟩
 refine⟨b,off,ha,hlt,fun i hi=>?_⟩
 have:=hc i hi 0 _ rfl
 rwa [Nat.mul_one,Nat.add_zero]at this
theorem hZ (l:List Int):iS l=bK l:=rfl
theorem indexF_nil (a:Option Addr) (c:Nat) (fv:Value) (w:World):Calls Tryz.prog 266 #[.slice a 0 c,fv] w fun e w'=>e= .returned (.int .i64 (-1))∧w=w':=by
 go_enter Tryz.func266,Tryz.ntmps266
 go_wp2_with fail
 go_loopw [8] (fun y wr=>y= .int .i64 0∧w=wr) (fun _ _=>0)
 case atStart=>exact⟨rfl,by first|rfl|trivial⟩
 case round=>
  obtain⟨rfl,rfl⟩:=hrel
  go_wp2_with fail
  go_ret
  exact⟨rfl,by first|rfl|trivial⟩
theorem indexN_nil (a:Option Addr) (c:Nat) (fv:Value) (w:World):Calls Tryz.prog 270 #[.slice a 0 c,fv] w fun e w'=>e= .returned (.int .i64 (-1))∧w=w':=by
 go_enter Tryz.func270,Tryz.ntmps270
 go_wp2_with fail
 go_loopw [8] (fun y wr=>y= .int .i64 0∧w=wr) (fun _ _=>0)
 case atStart=>exact⟨rfl,by first|rfl|trivial⟩
 case round=>
  obtain⟨rfl,rfl⟩:=hrel
  go_wp2_with fail
  go_ret
  exact⟨rfl,by first|rfl|trivial⟩
theorem bang_get {α:Type} [Inhabited α] {l:List α} {i:Nat} (h:i<l.length):l[i]! =l[i]:=getElem!_pos l i h
instance:Inhabited (ByteArray×ByteArray):=⟨(ByteArray.empty,ByteArray.empty)⟩
theorem contF_any {w:World} {x:Value} {l:List Fi} (h:RdF w x l):Calls Tryz.prog 204 #[x,.func (.func 205) #[] #[]] w fun e w'=>e= .returned (.bool (l.any (fun f=> !bB f)))∧Below w.heap.size w w':=by
 obtain⟨a,c,rfl,hc1,hc2,_,h5⟩:=h
 rcases h5 with rfl|⟨b,off,rfl,hlt,hc⟩
 · go_enter Tryz.func204,Tryz.ntmps204
   go_wp2_with (go_at_call 266;refine(indexF_nil _ _ _ _).mono ?_;rintro e w' ⟨rfl,rfl⟩)
   go_ret
   exact⟨rfl,Below.refl _ _⟩
 · have eg:∀ args w,(callFunc 205 args).run Tryz.prog w= .ok (.enter 205 args) w:=enters_of Tryz.func205 (by kernel_rfl) rfl
   have hcon:=AnyQ.slices_ContainsFunc Tryz.gl_contFi 6 (fun _=>by kernel_rfl) (fun _=>by kernel_rfl) Fi.cells (fun _=>rfl) (fun f=> !bB f) 205 #[] eg b off l.length c l w (fun W f hb=>(right1_any f W).mono fun e w' ⟨h1,h2⟩=>⟨h1,hb.trans (h2.mono hb.size)⟩) (Nat.le_refl _) (by omega) hlt (fun j hj i v hv=>by rw[bang_get hj]at hv;exact hc j hj i v hv)
   rw[List.take_length]at hcon
   exact hcon
theorem contN_any {w:World} {x:Value} {l:List KV} (h:RdN w x l):Calls Tryz.prog 208 #[x,.func (.func 209) #[] #[]] w fun e w'=>e= .returned (.bool (l.any (fun f=> !dB f)))∧Below w.heap.size w w':=by
 obtain⟨a,c,rfl,hc1,hc2,_,h5⟩:=h
 rcases h5 with rfl|⟨b,off,rfl,hlt,hc⟩
 · go_enter Tryz.func208,Tryz.ntmps208
   go_wp2_with (go_at_call 270;refine(indexN_nil _ _ _ _).mono ?_;rintro e w' ⟨rfl,rfl⟩)
   go_ret
   exact⟨rfl,Below.refl _ _⟩
 · have eg:∀ args w,(callFunc 209 args).run Tryz.prog w= .ok (.enter 209 args) w:=enters_of Tryz.func209 (by kernel_rfl) rfl
   have hcon:=AnyQ.slices_ContainsFunc Tryz.gl_contNt 2 (fun _=>by kernel_rfl) (fun _=>by kernel_rfl) cNt (fun _=>rfl) (fun f=> !dB f) 209 #[] eg b off l.length c l w (fun W f hb=>(right2_any f W).mono fun e w' ⟨h1,h2⟩=>⟨h1,hb.trans (h2.mono hb.size)⟩) (Nat.le_refl _) (by omega) hlt (fun j hj i v hv=>by rw[bang_get hj]at hv;exact hc j hj i v hv)
   rw[List.take_length]at hcon
   exact hcon
theorem any_not_all {α:Type} (l:List α) (p:α→Bool):l.any (fun f=> !p f)= !l.all p:=by
 induction l with
 |nil=>rfl
 |cons x l ih=>rw[List.any_cons,List.all_cons,ih,Bool.not_and]
end
section
open Go.RowKit
theorem rdz_at {w:World} {a:Option Addr} {n c i:Nat} {l:List Int} (h:RdZ w (.slice a n c) l) (hi:i<l.length):∃ b off,a=some ⟨b,off,none⟩∧b<w.heap.size∧w.cell? ⟨b,off+i,none⟩=some (.int .i64 l[i]):=by
 obtain⟨b,off,h1,h2,_,_,_,hc⟩:=h.at_ hi
 have:=hc 0 _ rfl
 rw[Nat.mul_one,Nat.add_zero]at this
 exact⟨b,off,h1,h2,this⟩
def LqAns (l m:List Int) (w:World) (r:Ending) (w':World):Prop:=∃ b,r= .returned (.bool b)∧(b=true↔leZ l m)∧w'=w
set_option maxHeartbeats 1000000 in
theorem mleq_any {w:World} {x y:Value} {l m:List Int} (hx:RdZ w x l) (hy:RdZ w y m) (h1:l.length≤1000000) (h2:m.length≤1000000):
 Calls Tryz.prog 135 #[x,y] w (LqAns l m w):=by
 obtain⟨xa,xc,rfl,hx1,hx2⟩:=hx.form
 obtain⟨ya,yc,rfl,hy1,hy2⟩:=hy.form
 obtain⟨n,hn⟩:∃ n,l.length=n:=⟨_,rfl⟩
 obtain⟨k,hk⟩:∃ k,m.length=k:=⟨_,rfl⟩
 rw[hn]at hx h1 hx1 ⊢
 rw[hk]at hy h2 hy1 ⊢
 have H:=aB (aA hx (aA hy (aA hn hk)))
 clear hx hy hn hk
 by_cases hnk:n=k
 · subst hnk
   go_enter Tryz.func135,Tryz.ntmps135
   go_wp2_with fail
   go_loopw [14] (fun q wr=>∃ i:Nat,i≤n∧q= .int .i64 (i:Int)∧wr=w∧∀ j (h:j<l.length) (h':j<m.length),j<i→l[j]≤m[j]) (fun q _=>n - (intOf q).toNat)
   case atStart=>exact⟨0,by omega,rfl,by first|rfl|trivial,fun j _ _ h0=>by omega⟩
   case round=>
    obtain⟨i,hi,rfl,rfl,hj⟩:=hrel
    by_cases hlt:i<n
    · have hil:i<l.length:=by rw[H.out.2.2.1];exact hlt
      have him:i<m.length:=by rw[H.out.2.2.2];exact hlt
      obtain⟨b,off,rfl,hbl,c0⟩:=rdz_at H.out.1 hil
      obtain⟨d,doff,rfl,hdl,d0⟩:=rdz_at H.out.2.1 him
      have HJ:=aB hj
      obtain⟨p,hp⟩:∃ p,l[i]=p:=⟨_,rfl⟩
      obtain⟨q,hq⟩:∃ q,m[i]=q:=⟨_,rfl⟩
      rw[hp]at c0
      rw[hq]at d0
      have HP:=aB (aA hp hq)
      have z0:(i:Int)<(n:Int):=by omega
      have z1:(0:Int)≤(i:Int):=by omega
      clear hj hp hq
      by_cases hpq:q<p
      · go_wp2_with fail
        go_ret
        refine⟨_,rfl,⟨fun h9=>by simp at h9,fun h9=>?_⟩,rfl⟩
        have:=h9.2 i hil him
        rw[HP.out.1,HP.out.2]at this
        omega
      · go_wp2_with fail
        go_roundw
        case rel=>
         refine⟨i+1,by omega,by go_num,by first|rfl|trivial,fun j h h' hji=>?_⟩
         by_cases e:j=i
         · subst e
           rw[HP.out.1,HP.out.2]
           omega
         · exact HJ.out j h h' (by omega)
        case measure=>simp[intOf];omega
    · obtain rfl:i=n:=by omega
      have HJ:=aB hj
      have z0:¬ (i:Int)<(i:Int):=by omega
      clear hj
      go_wp2_with fail
      go_ret
      exact⟨_,rfl,⟨fun _=>⟨by rw[H.out.2.2.1,H.out.2.2.2],fun j h h'=>HJ.out j h h' (by have:=H.out.2.2.1;omega)⟩,fun _=>rfl⟩,rfl⟩
 · have z0:¬ (n:Int)=(k:Int):=by omega
   have z1:((n:Int) != (k:Int))=true:=bne_iff_ne.2 z0
   go_enter Tryz.func135,Tryz.ntmps135
   go_wp2_with fail
   go_ret
   exact⟨_,rfl,⟨fun h9=>by simp at h9,fun h9=>by have:=h9.1;rw[H.out.2.2.1,H.out.2.2.2]at this;exact absurd this hnk⟩,rfl⟩
end
end Go.Proofs.YtpfibkgmfapnjaaGreatDoor
