/- Disk: asked for power and names, a panic met. -/
import Derived.Test.YtpfibkgmfapnjaaGreatDoorS6
import Derived.Defers
import Derived.Recover
import Derived.Laws.Pointers
import Derived.Test.YtpfibkgmfapnjaaGreatDoorS4
import Derived.IntWalk
import Derived.Test.YtpfibkgmfapnjaaGreatDoorS1
set_option linter.unusedSimpArgs false
set_option linter.unusedVariables false
namespace Go.Proofs.YtpfibkgmfapnjaaGreatDoor
section
open Go.RowKit
def cK (on:Bool) (l:List ByteArray):Int:=if !on then 20 else if l.all dG then 0 else 21
def OnAt (w:World) (o:Option Addr) (b:Bool):Prop:=(o=none∧b=false)∨∃ db,o=some ⟨db,0,none⟩∧w.cell? ⟨db,1,none⟩=some (.bool b)
theorem OnAt.below {w w':World} {o:Option Addr} {b:Bool} (h:OnAt w o b) (hb:Below w.heap.size w w'):OnAt w' o b:=by
 rcases h with h|⟨db,h,hc⟩
 · exact .inl h
 · exact .inr ⟨db,h,(hb.cell (p:=⟨db,1,none⟩) (World.block_lt_of_cell? _ _ hc)).trans hc⟩
theorem on_at {w:World} {o:Option Addr} {b:Bool} (h:OnAt w o b):Calls Tryz.prog 60 #[.pointer o] w fun e w'=>e= .returned (.bool b)∧w=w':=by
 rcases h with⟨rfl,rfl⟩|⟨db,rfl,hc⟩
 · exact on_nil w
 · exact on_any hc
def WantE (k:Int) (e:Ending):Prop:=(k=0∧e= .returned (.tuple #[]))∨(k≠0∧e= .panicked [{v:= .iface 27 (.int .i64 k),recovered:=false}])
set_option maxRecDepth 100000 in
theorem wanted_any {w:World} {o:Option Addr} {b:Bool} (h:OnAt w o b) {x:Value} {l:List ByteArray} (hx:RdT w x l) (hl:l.length≤1000000) (hs:∀ s∈l,s.size≤9223372036854775807):
 Calls Tryz.prog 233 #[.pointer o,x] w fun e w'=>WantE (cK b l) e∧Below w.heap.size w w':=by
 have hO:=on_at h
 have hC:=contains_any hx hl hs
 obtain⟨a,c,rfl,-⟩:=hx
 obtain⟨n,hn⟩:∃ n,l.length=n:=⟨_,rfl⟩
 rw[hn]at hC ⊢
 obtain⟨q,hq⟩:∃ q,l.all dG=q:=⟨_,rfl⟩
 have hk:cK b l=if !b then 20 else if q then 0 else 21:=by unfold cK;rw[hq]
 rw[hk]
 rw[hq]at hC
 clear hk hq hs hl h hn
 cases b
 · go_enter Tryz.func233,Tryz.ntmps233
   go_wp2_with (go_at_call 60;refine hO.mono ?_;rintro e w' ⟨rfl,rfl⟩)
   exact⟨rfl,.inr ⟨by decide,by simp⟩,Below.refl _ _⟩
 · cases q
   · simp only[Bool.not_false]at hC
     go_enter Tryz.func233,Tryz.ntmps233
     go_wp2_with (first
      |(go_at_call 60;refine hO.mono ?_;rintro e w' ⟨rfl,rfl⟩)
      |(go_at_call 291;refine hC.mono ?_;rintro e w1 ⟨rfl,hb⟩;have HB:=aB hb;clear hb))
     exact⟨rfl,.inr ⟨by decide,by simp⟩,HB.out⟩
   · simp only[Bool.not_true]at hC
     go_enter Tryz.func233,Tryz.ntmps233
     go_wp2_with (first
      |(go_at_call 60;refine hO.mono ?_;rintro e w' ⟨rfl,rfl⟩)
      |(go_at_call 291;refine hC.mono ?_;rintro e w1 ⟨rfl,hb⟩;have HB:=aB hb;clear hb))
     go_end0
     exact⟨.inl ⟨by decide,rfl⟩,HB.out⟩
theorem assert_errno (x:Value) (w:World):(Instr.typeAssert (.iface 27 x) 20 27 true).run Tryz.prog w= .ok (.tuple #[x,.bool true]) w:=by kernel_rfl
theorem asked_catch (a:Nat) (code:Int) (w:World) (fa:w.frozen? ⟨a,0,none⟩=false) (ca:∃ v,w.cell? ⟨a,0,none⟩=some v):
 CallsD Tryz.prog 232 #[.pointer (some ⟨a,0,none⟩)] (.panicking [{v:= .iface 27 (.int .i64 code),recovered:=false}]) w fun e u' w'=>
  e= .returned (.tuple #[])∧u'= .panicking [{v:= .iface 27 (.int .i64 code),recovered:=true}]∧w'=w.setCell ⟨a,0,none⟩ (.int .i64 code):=by
 obtain⟨va,ca⟩:=ca
 refine callsD_of_wpS Tryz.func232 rfl fun c₀ cs hu=>?_
 apply wpS_seq
 apply wpS_region
 simp[wpOpsS,go_sem,recoverD,hu,Tryz.ntmps232,Exit.thenS]
 refine wpS_of_wp ?_
 simp only[List.replicate,Array.replicate,List.append_toArray,List.setIfInBounds_toArray,List.set_cons_zero,List.set_cons_succ,List.cons_append,List.nil_append]
 have hta:=assert_errno
 have hnot:∀ (x:Bool) (w:World),(Op.unary .not (.bool x)).run Tryz.prog w= .ok (.bool (!x)) w:=fun _ _=>rfl
 go_wp2
 exact⟨rfl,_,rfl,_,results_none rfl _ _ _,rfl,rfl,rfl⟩
theorem asked_idle (a:Nat) (w:World):
 CallsD Tryz.prog 232 #[.pointer (some ⟨a,0,none⟩)] .returning w fun e u' w'=>e= .returned (.tuple #[])∧u'= .returning∧w'=w:=by
 refine callsD_of_wpS Tryz.func232 rfl fun c₀ cs hu=>?_
 apply wpS_seq
 apply wpS_region
 simp[wpOpsS,go_sem,recoverD,hu,Tryz.ntmps232,Exit.thenS]
 refine wpS_of_wp ?_
 simp only[List.replicate,Array.replicate,List.append_toArray,List.setIfInBounds_toArray,List.set_cons_zero,List.set_cons_succ,List.cons_append,List.nil_append]
 go_wp2
 refine⟨rfl,.returning,?_,_,results_none rfl _ _ _,rfl,rfl,rfl⟩
 cases c₀
 simp_all
set_option maxRecDepth 100000 in
theorem fN {w:World} {o:Option Addr} {b:Bool} (h:OnAt w o b) {x:Value} {l:List ByteArray} (hx:RdT w x l) (hl:l.length≤1000000) (hs:∀ s∈l,s.size≤9223372036854775807):
 Calls Tryz.prog 144 #[.pointer o,x] w fun e w'=>e= .returned (.int .i64 (cK b l))∧Below w.heap.size w w':=by
 have hmf:∀ (fn:Fn) (first cap:Array Value) (w:World),(Instr.makeFunc fn first cap).run Tryz.prog w= .ok (.func fn first cap) w:=fun _ _ _ _=>rfl
 have hW:=fun(w1:World) (hb:Below w.heap.size w w1)=>wanted_any (h.below hb) (hx.below hb) hl hs
 obtain⟨k,hk⟩:∃ k,cK b l=k:=⟨_,rfl⟩
 rw[hk]at hW ⊢
 have HW:=aB hW
 clear hW hk h hx hl hs
 go_enter_defers Tryz.func144,Tryz.ntmps144
 go_wp2_with fail
 refine(HW.out _ ((Below.refl _ _).alloc (Nat.le_refl _) _)).mono ?_
 rintro e w1 ⟨⟨rfl,rfl⟩|⟨hk,rfl⟩,hb⟩
 · have HB:=aB hb
   have c1:w1.cell? ⟨w.heap.size,0,none⟩=some (.int .i64 0):=(hb.cell (p:=⟨w.heap.size,0,none⟩) (by simp)).trans (by simp[go_sem])
   have f1:w1.frozen? ⟨w.heap.size,0,none⟩=false:=(hb.frozen (p:=⟨w.heap.size,0,none⟩) (by simp)).trans (by simp[go_sem])
   clear hb
   go_wp2
   refine leaves_cons (f:=232) (args:= #[.pointer (some ⟨w.heap.size,0,none⟩)]) (by simp) (by simp[go_sem]) ?_
   refine(asked_idle _ _).mono ?_
   rintro e u' w'' ⟨rfl,rfl,rfl⟩
   simp[Leaves,settle,results,Tryz.results144,go_sem]
   have hsc:(w1.setCell ⟨w.heap.size,0,none⟩ (.int .i64 0)).cell? ⟨w.heap.size,0,none⟩=some (.int .i64 0):=World.cell?_setCell_same _ _ _ c1
   simp only[hsc]
   exact⟨_,rfl,rfl,(((Below.refl _ _).alloc (Nat.le_refl _) _).trans (HB.out.mono (by simp))).setCell (by simp) _⟩
 · have HK:=aB hk
   have HB:=aB hb
   have c1:w1.cell? ⟨w.heap.size,0,none⟩=some (.int .i64 0):=(hb.cell (p:=⟨w.heap.size,0,none⟩) (by simp)).trans (by simp[go_sem])
   have f1:w1.frozen? ⟨w.heap.size,0,none⟩=false:=(hb.frozen (p:=⟨w.heap.size,0,none⟩) (by simp)).trans (by simp[go_sem])
   clear hb hk
   go_wp2
   refine leaves_cons (f:=232) (args:= #[.pointer (some ⟨w.heap.size,0,none⟩)]) (by simp) (by simp[go_sem]) ?_
   refine(asked_catch _ _ _ f1 ⟨_,c1⟩).mono ?_
   rintro e u' w'' ⟨rfl,rfl,rfl⟩
   simp[Leaves,settle,results,Tryz.results144,go_sem]
   have hsc:(w1.setCell ⟨w.heap.size,0,none⟩ (.int .i64 k)).cell? ⟨w.heap.size,0,none⟩=some (.int .i64 k):=World.cell?_setCell_same _ _ _ c1
   simp only[hsc]
   exact⟨_,rfl,rfl,(((Below.refl _ _).alloc (Nat.le_refl _) _).trans (HB.out.mono (by simp))).setCell (by simp) _⟩
end
section
open Go.RowKit
theorem keyN:hJ Tryz.prog 9 kW .string:=key_str Tryz.underlying9
abbrev tMap:TypeId:=80
theorem und_map:Tryz.prog.underlying tMap=some (.map 9 113):=Tryz.underlying80
def RdC (F:Nat→Prop) (w:World) (x:Value) (l:List Int):Prop:=∃ a c,x= .slice a l.length c∧(l=[]∨∃ b off,a=some ⟨b,off,none⟩∧¬ F b∧b<w.heap.size∧∀ i (hi:i<l.length),w.cell? ⟨b,off+i,none⟩=some (.int .i64 l[i]))
theorem RdC.tn {F G:Nat→Prop} {w w':World} {x:Value} {l:List Int} (h:RdC F w x l) (ht:Tn G w w') (hG:∀ q,q<w.heap.size→G q→F q):RdC F w' x l:=by
 obtain⟨a,c,hx,h⟩:=h
 refine⟨a,c,hx,h.imp id ?_⟩
 rintro⟨b,off,ha,hf,hlt,hc⟩
 exact⟨b,off,ha,hf,Nat.lt_of_lt_of_le hlt ht.size,fun i hi=>ht.cell (hc i hi) (fun hg=>hf (hG b hlt hg))⟩
def FzAt (F:Nat→Prop) (w:World):Option Fz→Value→Prop
 |none,p=>p= .pointer none
 |some z,p=>∃ fb v,p= .pointer (some ⟨fb,0,none⟩)∧¬ F fb∧fb<w.heap.size∧w.cell? ⟨fb,0,none⟩=some (.int .i64 (z.n:Int))∧w.cell? ⟨fb,1,none⟩=some v∧w.cell? ⟨fb,2,none⟩=some (.int .i64 z.flip)∧RdC F w v z.cuts
theorem FzAt.tn {F G:Nat→Prop} {w w':World} {z:Option Fz} {p:Value} (h:FzAt F w z p) (ht:Tn G w w') (hG:∀ q,q<w.heap.size→G q→F q):FzAt F w' z p:=by
 cases z with
 |none=>exact h
 |some z=>
  obtain⟨fb,v,hp,hf,hlt,c0,c1,c2,hr⟩:=h
  have hg:¬ G fb:=fun hg=>hf (hG fb hlt hg)
  exact⟨fb,v,hp,hf,Nat.lt_of_lt_of_le hlt ht.size,ht.cell c0 hg,ht.cell c1 hg,ht.cell c2 hg,hr.tn ht hG⟩
structure aF (F:Nat→Prop) (w:World) (db mb:Nat) (D:Dk):Prop where
 c0:w.cell? ⟨db,0,none⟩=some (.map (some mb))
 c1:w.cell? ⟨db,1,none⟩=some (.bool D.on)
 c2:w.cell? ⟨db,2,none⟩=some (.int .i64 D.quota)
 c3:∃ p,w.cell? ⟨db,3,none⟩=some p∧FzAt F w D.fuse p
 c4:w.cell? ⟨db,4,none⟩=some (.int .i64 (D.acts:Int))
 m:aL kW cvF w mb D.m
 fz:∀ j,w.frozen? ⟨db,j,none⟩=false
 ok:D.Ok
 ne:db≠mb
 fd:F db
 fm:F mb
 lt:∀ q,F q→q<w.heap.size
def aT (db mb q:Nat):Prop:=q=db∨q=mb
variable {F G:Nat→Prop} {w w':World} {db mb:Nat} {D D':Dk}
theorem aF.ltd (h:aF F w db mb D):db<w.heap.size:=World.block_lt_of_cell? _ _ h.c0
theorem aF.frame (h:aF F w db mb D) (ht:Tn G w w') (hG:∀ q,q<w.heap.size→G q→F q∧q≠db∧q≠mb):aF F w' db mb D:=by
 have hd:¬ G db:=fun hg=>(hG db h.ltd hg).2.1 rfl
 have hm:¬ G mb:=fun hg=>(hG mb h.m.lt hg).2.2 rfl
 obtain⟨p,hp,hz⟩:=h.c3
 exact⟨ht.cell h.c0 hd,ht.cell h.c1 hd,ht.cell h.c2 hd,⟨p,ht.cell hp hd,hz.tn ht (fun q hq hg=>(hG q hq hg).1)⟩,ht.cell h.c4 hd,h.m.tn ht hm,fun j=>(ht.frozen (p:=⟨db,j,none⟩) h.ltd hd).trans (h.fz j),h.ok,h.ne,h.fd,h.fm,fun q hq=>Nat.lt_of_lt_of_le (h.lt q hq) ht.size⟩
theorem aF.below (h:aF F w db mb D) (hb:Below w.heap.size w w'):aF F w' db mb D:=h.frame (Tn.ofBelow (F:=fun _=>False) hb) (fun _ _ e=>e.elim)
theorem aF.more (h:aF F w db mb D) (hF:∀ q,F q→G q) (hw:∀ q,G q→F q∨w.heap.size≤q) (hG:∀ q,G q→q<w'.heap.size) (hb:Below w.heap.size w w'):aF G w' db mb D:=by
 have h1:=h.below hb
 obtain⟨p,hp,hz⟩:=h.c3
 have hp':=(hb.cell (p:=⟨db,3,none⟩) h.ltd).trans hp
 refine⟨h1.c0,h1.c1,h1.c2,⟨p,hp',?_⟩,h1.c4,h1.m,h1.fz,h1.ok,h1.ne,hF _ h1.fd,hF _ h1.fm,hG⟩
 cases hzz:D.fuse with
 |none=>rw[hzz]at hz;exact hz
 |some z=>
  rw[hzz]at hz
  obtain⟨fb,v,e,hf,hlt,c0,c1,c2,a,c,hx,hr⟩:=hz
  refine⟨fb,v,e,fun hg=>(hw fb hg).elim hf (fun h=>by omega),Nat.lt_of_lt_of_le hlt hb.size,(hb.cell (p:=⟨fb,0,none⟩) hlt).trans c0,(hb.cell (p:=⟨fb,1,none⟩) hlt).trans c1,(hb.cell (p:=⟨fb,2,none⟩) hlt).trans c2,a,c,hx,hr.imp id ?_⟩
  rintro⟨b,off,ha,hbf,hbl,hc⟩
  exact⟨b,off,ha,fun hg=>(hw b hg).elim hbf (fun h=>by omega),Nat.lt_of_lt_of_le hbl hb.size,fun i hi=>(hb.cell (p:=⟨b,off+i,none⟩) hbl).trans (hc i hi)⟩
def Dk.fresh:Dk:=⟨[],true,-1,none,0⟩
theorem Dk.fresh_ok:Dk.fresh.Ok:=⟨by simp[Dk.fresh],by simp[Dk.fresh],by simp[Dk.fresh],by simp[Dk.fresh],by simp[Dk.fresh],by simp[Dk.fresh]⟩
theorem new_any (w:World):Calls Tryz.prog 8 #[] w fun e w'=>e= .returned (.pointer (some ⟨w.heap.size+1,0,none⟩))∧aF (aT (w.heap.size+1) w.heap.size) w' (w.heap.size+1) w.heap.size Dk.fresh∧Below w.heap.size w w'∧w'.heap.size=w.heap.size+2:=by
 have hmm:=@run_makeMap Tryz.prog
 go_enter Tryz.func8,Tryz.ntmps8
 go_wp2
 go_ret
 refine⟨by simp,?_,((Below.refl _ _).alloc (Nat.le_refl _) _).alloc (by simp) _,by simp⟩
 have hlt:∀ q,aT (w.heap.size+1) w.heap.size q→q<w.heap.size+1+1:=by
  intro q hq
  rcases hq with rfl|rfl<;>omega
 refine⟨by simp[go_sem],by simp[go_sem,Dk.fresh],by simp[go_sem,Dk.fresh],⟨.pointer none,by simp[go_sem],rfl⟩,by simp[go_sem,Dk.fresh],?_,fun j=>by simp[go_sem],Dk.fresh_ok,by omega,.inl rfl,.inr rfl,by simpa using hlt⟩
 exact(aL.made w).below ((Below.refl _ _).alloc (Nat.le_refl _) _)
end
section
open Go.RowKit
variable {F G:Nat→Prop} {w w':World} {db mb:Nat} {D D':Dk}
def Dk.less (D:Dk):Option Fz:=match D.fuse with
 |none=>none
 |some z=>some ⟨z.n - 1,z.cuts,z.flip⟩
theorem Dk.act_live (D:Dk) (f:Fm→Fm) (h:∀ z,D.fuse=some z→z.n≠0):D.act f=(0,{D with m:=f D.m,fuse:=D.less,acts:=D.acts+1}):=by
 unfold Dk.act Dk.less
 cases hz:D.fuse with
 |none=>simp only[hz]
 |some z=>
  obtain⟨n,cuts,flip⟩:=z
  cases n with
  |zero=>exact absurd rfl (h _ hz)
  |succ n=>rfl
theorem aF.store (h:aF F w db mb D) (ht:Tn (aT db mb) w w') (c0:w'.cell? ⟨db,0,none⟩=some (.map (some mb))) (c1:w'.cell? ⟨db,1,none⟩=some (.bool D'.on)) (c2:w'.cell? ⟨db,2,none⟩=some (.int .i64 D'.quota))
 (c3:∃ p,w'.cell? ⟨db,3,none⟩=some p∧FzAt F w' D'.fuse p) (c4:w'.cell? ⟨db,4,none⟩=some (.int .i64 (D'.acts:Int))) (m:aL kW cvF w' mb D'.m) (fz:∀ j,w'.frozen? ⟨db,j,none⟩=false) (ok:D'.Ok):aF F w' db mb D':=
 ⟨c0,c1,c2,c3,c4,m,fz,ok,h.ne,h.fd,h.fm,fun q hq=>Nat.lt_of_lt_of_le (h.lt q hq) ht.size⟩
theorem two_F (h:aF F w db mb D):∀ q,aT db mb q→F q:=fun q hq=>hq.elim (fun e=>e▸h.fd) (fun e=>e▸h.fm)
theorem cH {w:World} {b i j:Nat} {v u:Value} (h:w.cell? ⟨b,j,none⟩=some u) (hij:i≠j):(w.setCell ⟨b,i,none⟩ v).cell? ⟨b,j,none⟩=some u:=by
 rw[World.cell?_setCell_other _ _ _ _ (by intro e;injection e with _ e2;exact hij e2)]
 exact h
theorem aF.set4 (h:aF F w db mb D) {n:Nat} (hn:n≤1000000):aF F (w.setCell ⟨db,4,none⟩ (.int .i64 (n:Int))) db mb {D with acts:=n}:=by
 have ht:Tn (aT db mb) w (w.setCell ⟨db,4,none⟩ (.int .i64 (n:Int))):=Tn.setCell _ _ _ (.inl rfl)
 obtain⟨p,hp,hz⟩:=h.c3
 refine h.store (D':={D with acts:=n}) ht (cH h.c0 (by omega)) (cH h.c1 (by omega)) (cH h.c2 (by omega)) ⟨p,cH hp (by omega),hz.tn ht (fun q _ hq=>two_F h q hq)⟩ (World.cell?_setCell_same _ _ _ h.c4)
  (h.m.tn (Tn.setCell (F:=fun q=>q=db) _ _ _ rfl) (fun e=>h.ne e.symm)) (fun j=>by rw[World.frozen?_setCell];exact h.fz j) ⟨h.ok.nam,h.ok.syn,h.ok.few,hn,h.ok.quota,h.ok.fuse⟩
theorem aF.set3 (h:aF F w db mb D) {z:Option Fz} {p:Value} (hz:FzAt F (w.setCell ⟨db,3,none⟩ p) z p) (hok:∀ y,z=some y→y.n≤9223372036854775807∧y.cuts.length≤1000000):aF F (w.setCell ⟨db,3,none⟩ p) db mb {D with fuse:=z}:=by
 have ht:Tn (aT db mb) w (w.setCell ⟨db,3,none⟩ p):=Tn.setCell _ _ _ (.inl rfl)
 obtain⟨p0,hp0,_⟩:=h.c3
 refine h.store (D':={D with fuse:=z}) ht (cH h.c0 (by omega)) (cH h.c1 (by omega)) (cH h.c2 (by omega)) ⟨p,World.cell?_setCell_same _ _ _ hp0,hz⟩ (cH h.c4 (by omega))
  (h.m.tn (Tn.setCell (F:=fun q=>q=db) _ _ _ rfl) (fun e=>h.ne e.symm)) (fun j=>by rw[World.frozen?_setCell];exact h.fz j) ⟨h.ok.nam,h.ok.syn,h.ok.few,h.ok.acts,h.ok.quota,hok⟩
theorem aF.set1 (h:aF F w db mb D) (b:Bool):aF F (w.setCell ⟨db,1,none⟩ (.bool b)) db mb {D with on:=b}:=by
 have ht:Tn (aT db mb) w (w.setCell ⟨db,1,none⟩ (.bool b)):=Tn.setCell _ _ _ (.inl rfl)
 obtain⟨p,hp,hz⟩:=h.c3
 refine h.store (D':={D with on:=b}) ht (cH h.c0 (by omega)) (World.cell?_setCell_same _ _ _ h.c1) (cH h.c2 (by omega)) ⟨p,cH hp (by omega),hz.tn ht (fun q _ hq=>two_F h q hq)⟩ (cH h.c4 (by omega))
  (h.m.tn (Tn.setCell (F:=fun q=>q=db) _ _ _ rfl) (fun e=>h.ne e.symm)) (fun j=>by rw[World.frozen?_setCell];exact h.fz j) ⟨h.ok.nam,h.ok.syn,h.ok.few,h.ok.acts,h.ok.quota,h.ok.fuse⟩
theorem aF.setM (h:aF F w db mb D) {m:Fm} (ht:Tn (fun q=>q=mb) w w') (hm:aL kW cvF w' mb m) (hok:({D with m:=m}:Dk).Ok):aF F w' db mb {D with m:=m}:=by
 have hd:¬ (db=mb):=h.ne
 obtain⟨p,hp,hz⟩:=h.c3
 exact h.store (D':={D with m:=m}) (ht.mono (fun q hq=> .inr hq)) (ht.cell h.c0 hd) (ht.cell h.c1 hd) (ht.cell h.c2 hd) ⟨p,ht.cell hp hd,hz.tn ht (fun q _ hq=>hq▸h.fm)⟩ (ht.cell h.c4 hd) hm
  (fun j=>(ht.frozen (p:=⟨db,j,none⟩) h.ltd hd).trans (h.fz j)) hok
def mC (F G:Nat→Prop) (K:FuncId) (caps:Array Value) (w:World) (db mb:Nat) (D:Dk) (f:Fm→Fm):Prop:=
 ∀ w1 D1,aF F w1 db mb D1→Tn (aT db mb) w w1→D1.m=D.m→Calls Tryz.prog K caps w1 fun e w2=>e= .returned (.tuple #[])∧aF F w2 db mb {D1 with m:=f D1.m}∧Tn (fun q=>aT db mb q∨G q) w1 w2
set_option maxRecDepth 100000 in
set_option maxHeartbeats 2000000 in
theorem act_live (h:aF F w db mb D) (hz:∀ z,D.fuse=some z→z.n≠0) (ha:D.acts<1000000) {fk:FuncId} {caps:Array Value} {f:Fm→Fm} (eg:∀ args w,(callFunc fk args).run Tryz.prog w= .ok (.enter fk args) w) (hdo:mC F G fk caps w db mb D f):
 Calls Tryz.prog 244 #[.pointer (some ⟨db,0,none⟩),.func (.func fk) #[] caps] w fun e w'=>e= .returned (.int .i64 0)∧aF F w' db mb (D.act f).2∧Tn (fun q=>aT db mb q∨G q) w w':=by
 have HD:=aB hdo
 have HA:=aB (D.act_live f hz)
 obtain⟨p,hp,hzp⟩:=h.c3
 have H:=aB h
 clear hdo
 cases hfz:D.fuse with
 |none=>
  rw[hfz]at hzp
  obtain rfl:p= .pointer none:=hzp
  have HZ:=aB hfz
  clear h hz hfz
  go_enter Tryz.func244,Tryz.ntmps244
  go_wp2_with fail
  refine(HD.out w D H.out (Tn.refl _ _) rfl).mono ?_
  rintro e w2 ⟨rfl,hd2,ht2⟩
  have k4:=hd2.c4
  have f4:=hd2.fz 4
  have H2:=aB (aA hd2 ht2)
  have r1:(D.acts:Int)<1000000:=by omega
  simp only at k4
  clear hd2 ht2
  go_wp2
  go_ret
  refine⟨rfl,?_,H2.out.2.trans (Tn.setCell _ _ _ (.inl (.inl rfl)))⟩
  rw[HA.out]
  have h3:=H2.out.1.set4 (n:=D.acts+1) (by omega)
  have e1:D.less=D.fuse:=by unfold Dk.less;rw[HZ.out]
  rw[e1]
  exact h3
 |some z=>
  rw[hfz]at hzp
  obtain⟨fb,v,rfl,hfF,hfl,q0,q1,q2,hrd⟩:=hzp
  have hzn:=hz z hfz
  have hzb:=h.ok.fuse z hfz
  obtain⟨av,cv,hv,hrv⟩:=hrd
  obtain⟨vl,hvl⟩:∃ vl,z.cuts.length=vl:=⟨_,rfl⟩
  rw[hvl]at hv
  subst hv
  obtain⟨n,hn⟩:∃ n,z.n=n:=⟨_,rfl⟩
  obtain⟨fl,hfl2⟩:∃ fl,z.flip=fl:=⟨_,rfl⟩
  rw[hn]at q0 hzn hzb
  rw[hfl2]at q2
  have HZ:=aB (aA hfz (aA hvl (aA hrv (aA hn (aA hfl2 hfF)))))
  have fd3:=h.fz 3
  have r1:((n:Int) == 0)=false:=beq_eq_false_iff_ne.2 (by omega)
  have r2:0≤(n:Int) - 1:=by omega
  have r3:(n:Int)≤9223372036854775807:=by omega
  clear h hz hfz hvl hrv hn hfl2 hzn hzb hfF
  go_enter Tryz.func244,Tryz.ntmps244
  go_wp2_with fail
  have kd0:w.drew.cell? ⟨fb,0,none⟩=some (.int .i64 (n:Int)):=q0
  have kd1:w.drew.cell? ⟨fb,1,none⟩=some (.slice av vl cv):=q1
  have kd2:w.drew.cell? ⟨fb,2,none⟩=some (.int .i64 fl):=q2
  have hw1:IntKind.i64.wrap ((n:Int) - 1)=(n:Int) - 1:=IntWalk.i64_in _ (by omega)
  refine dQ (fun w'=>w'.cell? ⟨fb,0,none⟩=some (.int .i64 (n:Int))∧w'.cell? ⟨fb,1,none⟩=some (.slice av vl cv)∧w'.cell? ⟨fb,2,none⟩=some (.int .i64 fl)) 18 19 ⟨kd0,kd1,kd2⟩ (fun hH=>?_)
  refine bU [[0],[1],[2],[3],[4],[5],[6],[7],[8],[9],[10],[11],[12],[13],[14]] hH ?_
  refine bM (i:=15) rfl (fun K hK=>?_)
  go_simp
  obtain⟨w2,hw2⟩:∃ w2,w2=(w.alloc (.cells #[.int .i64 ((n:Int) - 1),.slice av vl cv,.int .i64 fl] 159)).drew:=⟨_,rfl⟩
  have hb2:Below w.heap.size w w2:=by rw[hw2];exact((Below.refl _ _).alloc (Nat.le_refl _) _).drew
  have n0:w2.cell? ⟨w.heap.size,0,none⟩=some (.int .i64 ((n:Int) - 1)):=by rw[hw2];simp[go_sem]
  have n1:w2.cell? ⟨w.heap.size,1,none⟩=some (.slice av vl cv):=by rw[hw2];simp[go_sem]
  have n2:w2.cell? ⟨w.heap.size,2,none⟩=some (.int .i64 fl):=by rw[hw2];simp[go_sem]
  have hsz2:w2.heap.size=w.heap.size+1:=by rw[hw2];simp
  rw[← hw2]
  clear hw2
  have e0:=(hb2.cell (p:=⟨fb,0,none⟩) hfl).trans q0
  have e1:=(hb2.cell (p:=⟨fb,1,none⟩) hfl).trans q1
  have e2:=(hb2.cell (p:=⟨fb,2,none⟩) hfl).trans q2
  have H2:=aB (aA hb2 (aA n0 (aA n1 (aA n2 hsz2))))
  have fd3':w2.frozen? ⟨db,3,none⟩=false:=(hb2.frozen (p:=⟨db,3,none⟩) H.out.ltd).trans fd3
  have hp2:=(hb2.cell (p:=⟨db,3,none⟩) H.out.ltd).trans hp
  clear hb2 n0 n1 n2 hsz2
  refine bH hK ⟨e0,e1,e2⟩ ?_
  clear hK K
  intro hH
  refine bU [[16,17],[17]] hH ?_
  refine eU ?_
  clear hH
  have hn1:((n - 1:Nat):Int)=(n:Int) - 1:=by omega
  have hD3:aF F (w2.setCell ⟨db,3,none⟩ (.pointer (some ⟨w.heap.size,0,none⟩))) db mb {D with fuse:=D.less}:=by
   have hd2:=H.out.below H2.out.1
   have hne:w.heap.size≠db:=by have:=H.out.ltd;omega
   have hnF:¬ F w.heap.size:=fun hq=>Nat.lt_irrefl _ (H.out.lt _ hq)
   have ht:Tn (fun q=>q=db) w2 (w2.setCell ⟨db,3,none⟩ (.pointer (some ⟨w.heap.size,0,none⟩))):=Tn.setCell _ _ _ rfl
   have hl:D.less=some ⟨n - 1,z.cuts,fl⟩:=by simp only[Dk.less,HZ.out.1,HZ.out.2.2.2.1,HZ.out.2.2.2.2.1]
   refine hd2.set3 (z:=D.less) (p:= .pointer (some ⟨w.heap.size,0,none⟩)) ?_ ?_
   · rw[hl]
     refine⟨w.heap.size,.slice av vl cv,rfl,hnF,by have h8:=ht.size;have h9:=H2.out.2.2.2.2;omega,?_,?_,?_,?_⟩
     · rw[hn1];exact ht.cell H2.out.2.1 (fun e=>hne e)
     · exact ht.cell H2.out.2.2.1 (fun e=>hne e)
     · exact ht.cell H2.out.2.2.2.1 (fun e=>hne e)
     · have h8:RdC F w (.slice av vl cv) z.cuts:=⟨av,cv,by rw[HZ.out.2.1],HZ.out.2.2.1⟩
       exact(h8.tn (Tn.ofBelow (F:=fun _=>False) H2.out.1) (fun _ _ e=>e.elim)).tn ht (fun q _ e=>e▸H.out.fd)
   · intro y hy
     rw[hl]at hy
     injection hy with hy
     subst hy
     have:=H.out.ok.fuse z HZ.out.1
     rw[HZ.out.2.2.2.1]at this
     exact⟨by simp only;omega,this.2⟩
  have ht3:Tn (aT db mb) w (w2.setCell ⟨db,3,none⟩ (.pointer (some ⟨w.heap.size,0,none⟩))):=(Tn.ofBelow H2.out.1).trans (Tn.setCell _ _ _ (.inl rfl))
  have H3:=aB (aA hD3 ht3)
  obtain⟨w3,hw3⟩:∃ w3,w2.setCell ⟨db,3,none⟩ (.pointer (some ⟨w.heap.size,0,none⟩))=w3:=⟨_,rfl⟩
  rw[hw3]at H3 ⊢
  clear hD3 ht3 hw3 e0 e1 e2 q0 q1 q2 kd0 kd1 kd2 hp hp2 hn1 hw1 r1 fd3 fd3'
  go_wp2_with fail
  refine(HD.out w3 _ H3.out.1 H3.out.2 rfl).mono ?_
  rintro e w4 ⟨rfl,hd4,ht4⟩
  have k4:=hd4.c4
  have f4:=hd4.fz 4
  have H4:=aB (aA hd4 ht4)
  have r5:(D.acts:Int)<1000000:=by omega
  simp only at k4
  clear hd4 ht4
  go_wp2
  go_ret
  refine⟨rfl,?_,((H3.out.2.mono (fun q hq=> .inl hq)).trans H4.out.2).trans (Tn.setCell _ _ _ (.inl (.inl rfl)))⟩
  rw[HA.out]
  exact H4.out.1.set4 (n:=D.acts+1) (by omega)
end
section
open Go.RowKit Go.ChangeMaps Go.MapKept
section
variable {P:Program} {t k e:TypeId} {K0 V:Type} [DecidableEq K0] {ck:K0→Value} {cv:V→Value} {d:TypeDesc}
variable {w:World} {ops:Array Oper} {rest:List Oper} {o:Oper} {a:Act} {Q:Exit→Act→World→Prop} {ob:Option Nat} {m:List (K0×V)} {K:Act→World→Prop}
theorem dS {F:Prop} (hg:o.guard=none) (mo xo vo:Operand) (hop:o.op=Op.mapUpdate t mo xo vo) (hk:hJ P k ck d) (ht:P.underlying t=some (.map k e)) {b:Nat}
 (hm:a.eval mo= .map (some b)) (h:aL ck cv w b m) (x:K0) (hx:a.eval xo=ck x) (v:V) (hv:a.eval vo=cv v)
 (hK:∀ w',aL ck cv w' b (aG m x v)→Tn (fun q=>q=b) w w'→w'.heap.size=w.heap.size→K (a.put o.dst undef) w'):
 if Region.wanted o (yielded ops a.tmps)=true then o.wp P a w K Q else F:=by
 have hw:Region.wanted o (yielded ops a.tmps)=true:=by simp[Region.wanted,hg]
 rw[if_pos hw]
 obtain⟨w',hrun,r1,r2,r3⟩:=h.put hk ht x v
 unfold Oper.wp
 simp[execOp,hop,hm,hx,hv,hrun,Result.andThen]
 exact hK w' r1 r2 r3
theorem step_del {F:Prop} (hg:o.guard=none) (mo xo:Operand) (hop:o.op=Op.call {callee:=Callee.builtin Builtin.delete,args:= #[mo,xo],argTypes:= #[t,k]}) (hk:hJ P k ck d) (ht:P.underlying t=some (.map k e))
 (hm:a.eval mo= .map ob) (h:eS ck cv w ob m) (x:K0) (hx:a.eval xo=ck x)
 (hK:∀ w',eS ck cv w' ob (aW m x)→Tn (fun q=>ob=some q) w w'→w'.heap.size=w.heap.size→K (a.put o.dst (.tuple #[])) w'):
 if Region.wanted o (yielded ops a.tmps)=true then o.wp P a w K Q else F:=by
 have hw:Region.wanted o (yielded ops a.tmps)=true:=by simp[Region.wanted,hg]
 rw[if_pos hw]
 obtain⟨w',hrun,r1,r2,r3⟩:=h.del hk ht o.type x
 unfold Oper.wp
 simp[execOp,hop,resolve,invoke,builtin,hm,hx,hrun,Result.andThen]
 exact hK w' r1 r2 r3
end
end
section
open Go.RowKit
variable {F G:Nat→Prop} {w w':World} {db mb:Nat} {D D':Dk}
theorem cB (w:World) (d:ByteArray) (hd:d.size≤140737488351232):Calls Tryz.prog 31 #[.string d] w fun e w'=>e= .returned (.string d)∧Below w.heap.size w w':=by
 go_enter Tryz.func31,Tryz.ntmps31
 go_wp2_with (go_at_call 143;refine(Tryz.stringslite_Clone d w (by omega)).mono ?_;rintro _ w' ⟨rfl,hb⟩;simp only[])
 go_ret
 exact⟨rfl,hb⟩
theorem Dk.Ok.files (h:D.Ok) {m:Fm} (hm:∀ p∈m,p∈D.m∨(p.1.size≤64∧p.2.syn≤p.2.data.size∧p.2.data.size≤1048576)) (hl:m.length≤20000):({D with m:=m}:Dk).Ok:=
 ⟨fun p hp=>(hm p hp).elim (h.nam p) (fun h=>h.1),fun p hp=>(hm p hp).elim (h.syn p) (fun h=>h.2),hl,h.acts,h.quota,h.fuse⟩
theorem Dk.Ok.set (h:D.Ok) {s:ByteArray} {f:Fl} (hs:s.size≤64) (hf:f.syn≤f.data.size∧f.data.size≤1048576) (hl:(aG D.m s f).length≤20000):({D with m:=aG D.m s f}:Dk).Ok:=
 h.files (fun p hp=>by
  rcases fC hp with rfl|hp
  · exact .inr ⟨hs,hf⟩
  · exact .inl hp) hl
theorem Dk.Ok.del (h:D.Ok) {s:ByteArray}:({D with m:=aW D.m s}:Dk).Ok:=
 h.files (fun p hp=> .inl (gW hp)) (Nat.le_trans (List.length_filter_le _ _) h.few)
set_option maxRecDepth 100000 in
set_option maxHeartbeats 1000000 in
theorem create1_does {bD bN:Nat} {s:ByteArray} (hD:w.cell? ⟨bD,0,none⟩=some (.pointer (some ⟨db,0,none⟩))) (hN:w.cell? ⟨bN,0,none⟩=some (.string s)) (nD:¬ aT db mb bD) (nN:¬ aT db mb bN) (hs:s.size≤64) (hl:(aG D.m s ⟨ByteArray.empty,0⟩).length≤20000):
 mC F (fun _=>False) 248 #[.pointer (some ⟨bD,0,none⟩),.pointer (some ⟨bN,0,none⟩)] w db mb D (fun m=>aG m s ⟨ByteArray.empty,0⟩):=by
 intro w1 D1 h1 ht1 hm1
 have k1:=ht1.cell hD nD
 have k2:=ht1.cell hN nN
 have k3:=h1.c0
 have hs9:s.size≤140737488351232:=by omega
 have H:=aB (aA h1 (aA hm1 (aA hs hl)))
 clear hD hN ht1 h1 hm1 hs hl nD nN
 go_enter Tryz.func248,Tryz.ntmps248
 go_wp2_with fail
 have kd1:w1.drew.cell? ⟨bD,0,none⟩=some (.pointer (some ⟨db,0,none⟩)):=k1
 have kd2:w1.drew.cell? ⟨bN,0,none⟩=some (.string s):=k2
 have kd3:w1.drew.cell? ⟨db,0,none⟩=some (.map (some mb)):=k3
 refine dQ (fun w'=>w'.cell? ⟨bD,0,none⟩=some (.pointer (some ⟨db,0,none⟩))∧w'.cell? ⟨bN,0,none⟩=some (.string s)∧w'.cell? ⟨db,0,none⟩=some (.map (some mb))) 7 8 ⟨kd1,kd2,kd3⟩ (fun hH=>?_)
 refine bU [[0],[1],[2],[3],[4],[6]] hH ?_
 refine bM (i:=5) rfl (fun K hK=>?_)
 go_simp
 go_at_call 31
 refine(cB _ s hs9).mono ?_
 rintro e w2 ⟨rfl,hb2⟩
 have e1:=(hb2.cell (p:=⟨bD,0,none⟩) (World.block_lt_of_cell? _ _ kd1)).trans kd1
 have e2:=(hb2.cell (p:=⟨bN,0,none⟩) (World.block_lt_of_cell? _ _ kd2)).trans kd2
 have e3:=(hb2.cell (p:=⟨db,0,none⟩) (World.block_lt_of_cell? _ _ kd3)).trans kd3
 have HB:=aB (show Below w1.heap.size w1 w2 from(Below.refl _ _).drew.trans hb2)
 clear hb2
 refine bH hK ⟨e1,e2,e3⟩ ?_
 clear hK K
 intro hH
 have hd2:=H.out.1.below HB.out
 refine tkL rfl (fun K hK=>?_)
 refine dS rfl _ _ _ rfl keyN und_map rfl hd2.m s rfl ⟨ByteArray.empty,0⟩ rfl ?_
 intro w3 hm3 ht3 hz3
 refine hK.out _ _ (tkD ?_)
 clear hK K hH
 have hfin:=hd2.setM ht3 hm3 (hd2.ok.set H.out.2.2.1 ⟨Nat.le_refl _,by decide⟩ (by rw[H.out.2.1];exact H.out.2.2.2))
 have HF:=aB (aA hfin ((Tn.ofBelow (F:=fun q=>aT db mb q∨False) HB.out).trans (ht3.mono (fun q hq=> .inl (.inr hq)))))
 clear hfin hm3 ht3 hz3 hd2 e1 e2 e3 kd1 kd2 kd3 k1 k2 k3
 go_wp2_with fail
 go_end0
 exact⟨rfl,HF.out.1,by simpa using HF.out.2⟩
end
end Go.Proofs.YtpfibkgmfapnjaaGreatDoor
