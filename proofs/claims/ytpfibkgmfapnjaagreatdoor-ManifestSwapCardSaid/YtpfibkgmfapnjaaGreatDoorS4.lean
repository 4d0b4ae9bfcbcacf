/- A load may be taken first as long as the region's last store has not come up: the condition on the world is asked for only till then. -/
import Derived.Test.YtpfibkgmfapnjaaGreatDoorS3
import Derived.Deep.RegionHeld3
import Derived.Sort.Grow
set_option linter.unusedSimpArgs false
set_option linter.unusedVariables false
namespace Go.Proofs.YtpfibkgmfapnjaaGreatDoor
section
open Go.RowKit
section
variable {P:Program} {ops:Array Oper} {Q:Exit→Act→World→Prop} {md:Region.Mode} {S:World→Prop} {k:Nat}
def bI (P:Program) (md:Region.Mode) (ops:Array Oper) (Q:Exit→Act→World→Prop) (S:World→Prop) (k:Nat):Nat→Array Bool→Act→World→Prop
 |0,listed,a,w=>Region.ready md ops listed=[]∧Q .normal a w
 |fuel+1,listed,a,w=>
  (Region.ready md ops listed=[]→Q .normal a w)∧
  ∀ i∈Region.ready md ops listed,wpOp P ops Q i (fun a' w'=>((listed.setIfInBounds i true).getD k true=false→S w')∧bI P md ops Q S k fuel (listed.setIfInBounds i true) a' w') a w
theorem wpAny_of_K:∀ (fuel:Nat) (listed:Array Bool) (a:Act) (w:World),bI P md ops Q S k fuel listed a w→wpAny P md ops Q fuel listed a w
 |0,_,_,_,h=>h
 |fuel+1,_,_,_,h=>⟨h.1,fun i hi=>wpOp_mono (fun a' w' h'=>wpAny_of_K fuel _ a' w' h'.2) (h.2 i hi)⟩
def Region.waits (md:Region.Mode) (ops:Array Oper) (a b:Nat):Bool:=
 match ops[b]? with
 |some ob=>ob.after.any fun e=>Region.binds md e&&e.on == a
 |none=>false
def Region.row (md:Region.Mode) (ops:Array Oper):List Nat→Bool
 |a::b::l=>Region.waits md ops a b&&Region.row md ops (b::l)
 |_=>true
theorem waits_spec {a b:Nat} (h:Region.waits md ops a b=true) (listed:Array Bool) (hl:listed.getD a true=false):b ∉ Region.ready md ops listed:=by
 intro hr
 obtain⟨_,ok,hok,hall⟩:=mem_ready.1 hr
 unfold Region.waits at h
 simp only[hok]at h
 rw[← Array.any_toList]at h
 obtain⟨e,he,hb⟩:=List.any_eq_true.1 h
 simp only[Bool.and_eq_true,beq_iff_eq]at hb
 have h1:=hall e (Array.mem_toList_iff.1 he) hb.1
 rw[hb.2]at h1
 rcases Nat.lt_or_ge a listed.size with h'|h'
 · simp[h']at hl h1;rw[hl]at h1;cases h1
 · simp[Array.getElem?_eq_none h']at h1
theorem row_spec:∀ (l:List Nat) (i:Nat),Region.row md ops (i::l)=true→∀ listed:Array Bool,(∀ a∈i::l,listed.getD a true=false)→∀ a∈l,a ∉ Region.ready md ops listed
 |[],_,_,_,_,a,ha=>by simp at ha
 |b::l,i,hr,listed,hl,a,ha=>by
  simp only[Region.row,Bool.and_eq_true]at hr
  rcases List.mem_cons.1 ha with rfl|ha
  · exact waits_spec hr.1 listed (hl i (by simp))
  · exact row_spec l b hr.2 listed (fun c hc=>hl c (List.mem_cons_of_mem _ hc)) a ha
theorem wpAnyK_first {i:Nat} {oi:Oper} {v:Value} {path:List Nat} (hi:ops[i]?=some oi) (hsel:∀ (j:Nat) (o:Oper) cs b,ops[j]?=some o→o.op≠ .select cs b)
 (hQ:∀ c a w,Q (.panic c) (a.put oi.dst v) w→Q (.panic c) a w) (hik:i ∉ path) (hkp:k∈path) (hrow:Region.row md ops (i::path)=true):
 ∀ (fuel:Nat) (listed:Array Bool) (a:Act) (w:World),
  (∀ j oj,ops[j]?=some oj→j≠i→listed.getD j true=false→(∀ e∈oj.after,Region.binds md e=true→e.on≠i)→oi.apart ops oj=true)→
  i∈Region.ready md ops listed→(∀ b∈i::path,listed.getD b true=false)→YieldsIf P ops S oi v a→S w→
  bI P md ops Q S k fuel (listed.setIfInBounds i true) (a.put oi.dst v) w→bI P md ops Q S k (fuel+1) listed a w:=by
 intro fuel
 have hike:i≠k:=fun e=>hik (e▸hkp)
 induction fuel with
 |zero=>
  intro listed a w _ hr hk hy hS H
  refine⟨fun h=>(by rw[h]at hr;cases hr),fun j hj=>?_⟩
  by_cases hji:j=i
  · subst hji;exact hy.wpOp hi hS ⟨fun _=>hS,H⟩
  · have:=ready_mono hj hji
    rw[H.1]at this
    cases this
 |succ fuel ih=>
  intro listed a w hfree hr hk hy hS H
  refine⟨fun h=>(by rw[h]at hr;cases hr),fun j hj=>?_⟩
  by_cases hji:j=i
  · subst hji;exact hy.wpOp hi hS ⟨fun _=>hS,H⟩
  · have h1:=H.2 j (ready_mono hj hji)
    have hjp:j ∉ path:=fun e=>row_spec path i hrow listed hk j e hj
    have hjk:j≠k:=fun e=>hjp (e▸hkp)
    obtain⟨hjun,oj,hoj,hall⟩:=mem_ready.1 hj
    have hnot:∀ e∈oj.after,Region.binds md e=true→e.on≠i:=fun e he hb heq=>by
     have h1:=hall e he hb
     have h0:=(mem_ready.1 hr).1
     rw[heq]at h1
     rcases Nat.lt_or_ge i listed.size with h'|h'
     · simp[h']at h0 h1;rw[h0]at h1;cases h1
     · simp[Array.getElem?_eq_none h']at h1
    have h2:=wpOp_putIf hoj (hfree j oj hoj hji hjun hnot) (fun cs b=>hsel i oi cs b hi) (fun cs b=>hsel j oj cs b hoj) hQ hy h1
    have hfree':∀ k ok,ops[k]?=some ok→k≠i→(listed.setIfInBounds j true).getD k true=false→
     (∀ e∈ok.after,Region.binds md e=true→e.on≠i)→oi.apart ops ok=true:=fun k ok hk hki hun hno=>by
     refine hfree k ok hk hki ?_ hno
     by_cases hjk:j=k
     · subst hjk;exact hjun
     · rw[getD_set_ne true hjk]at hun;exact hun
    have hk0:listed.getD k true=false:=hk k (List.mem_cons_of_mem _ hkp)
    have hkij:((listed.setIfInBounds i true).setIfInBounds j true).getD k true=false:=by rw[getD_set_ne true hjk,getD_set_ne true hike];exact hk0
    have hk':∀ b∈i::path,(listed.setIfInBounds j true).getD b true=false:=fun b hb=>by
     rw[getD_set_ne true (fun e=>by
      rcases List.mem_cons.1 hb with h|h
      · exact hji (e.trans h)
      · exact hjp (e▸h))]
     exact hk b hb
    refine wpOp_mono (fun a' w' h3=>⟨fun _=>h3.2.1 hkij,ih (listed.setIfInBounds j true) a' w' hfree' (ready_mono hr (Ne.symm hji)) hk' h3.1 (h3.2.1 hkij) ?_⟩) h2
    rw[Array.setIfInBounds_comm _ _ hji]
    exact h3.2.2
theorem iR {i:Nat} (path:List Nat) {t:Option Tmp} {op:Op} {ty:TypeId} {pos:String} {aft:Array Edge} {gd:Option (Nat×Bool)} {v:Value} {fuel:Nat} {listed:Array Bool} {a:Act} {w:World} (hi:ops[i]?=some ⟨t,op,ty,pos,aft,gd⟩)
 (hs:Region.noSelect ops=true) (hf:Region.free md ops listed i=true) (hr:(Region.ready md ops listed).contains i=true)
 (hk:(!path.contains i&&path.contains k&&Region.row md ops (i::path)&&(i::path).all (fun b=>listed.getD b true == false))=true)
 (hQ:∀ c a w,Q (.panic c) (a.put t v) w→Q (.panic c) a w) (hy:YieldsIf P ops S ⟨t,op,ty,pos,aft,gd⟩ v a) (hS:S w)
 (h:bI P md ops Q S k fuel (listed.setIfInBounds i true) (a.put t v) w):bI P md ops Q S k (fuel+1) listed a w:=by
 simp only[Bool.and_eq_true,Bool.not_eq_true',List.all_eq_true,beq_iff_eq]at hk
 exact wpAnyK_first hi (Region.noSelect_spec hs) hQ (by simpa using hk.1.1.1) (by simpa using hk.1.1.2) hk.1.2 fuel listed a w (Region.free_spec hi hf) (by simpa using hr) hk.2 hy hS h
theorem dX {rs:List Nat} {fuel:Nat} {listed:Array Bool} {a:Act} {w:World} (hr:Region.ready md ops listed=rs) (hne:rs≠[])
 (h:∀ i∈rs,wpOp P ops Q i (fun a' w'=>((listed.setIfInBounds i true).getD k true=false→S w')∧bI P md ops Q S k fuel (listed.setIfInBounds i true) a' w') a w):bI P md ops Q S k (fuel+1) listed a w:=
 ⟨fun h0=>absurd (hr▸h0) hne,hr▸h⟩
theorem wpAnyK_one {i:Nat} {t:Option Tmp} {op:Op} {ty:TypeId} {pos:String} {aft:Array Edge} {gd:Option (Nat×Bool)} {fuel:Nat} {listed:Array Bool} {a:Act} {w:World} (hr:Region.ready md ops listed=[i]) (hi:ops[i]?=some ⟨t,op,ty,pos,aft,gd⟩)
 (h:∀ K':Act→World→Prop,Shut (∀ a w,S w→(S w→bI P md ops Q S k fuel (listed.setIfInBounds i true) a w)→K' a w)→
  if Region.wanted ⟨t,op,ty,pos,aft,gd⟩ (yielded ops a.tmps)=true then Oper.wp P ⟨t,op,ty,pos,aft,gd⟩ a w K' Q else K' (a.put t undef) w)
 (hk:(listed.setIfInBounds i true).getD k true=false):bI P md ops Q S k (fuel+1) listed a w:=
 dX hr (by simp) (fun j hj=>by
  obtain rfl:=List.mem_singleton.1 hj
  exact wpOp_step hi (fun K' hK=>h K' (fun a w hS hW=>hK a w ⟨fun _=>hS,hW hS⟩)))
theorem wpAnyK_last {t:Option Tmp} {op:Op} {ty:TypeId} {pos:String} {aft:Array Edge} {gd:Option (Nat×Bool)} {fuel:Nat} {listed:Array Bool} {a:Act} {w:World} (hr:Region.ready md ops listed=[k]) (hi:ops[k]?=some ⟨t,op,ty,pos,aft,gd⟩)
 (h:∀ K':Act→World→Prop,Shut (∀ a w,bI P md ops Q S k fuel (listed.setIfInBounds k true) a w→K' a w)→
  if Region.wanted ⟨t,op,ty,pos,aft,gd⟩ (yielded ops a.tmps)=true then Oper.wp P ⟨t,op,ty,pos,aft,gd⟩ a w K' Q else K' (a.put t undef) w)
 (hk:(listed.setIfInBounds k true).getD k true=true):bI P md ops Q S k (fuel+1) listed a w:=
 dX hr (by simp) (fun j hj=>by
  obtain rfl:=List.mem_singleton.1 hj
  exact wpOp_step hi (fun K' hK=>h K' (fun a w hW=>hK a w ⟨fun e=>absurd (hk.symm.trans e) (by decide),hW⟩)))
theorem wpAnyK_done {listed:Array Bool} {a:Act} {w:World} (hr:Region.ready md ops listed=[]) (h:Q .normal a w):
 ∀ fuel,bI P md ops Q S k fuel listed a w
 |0=>⟨hr,h⟩
 |_+1=>⟨fun _=>h,by rw[hr];simp⟩
theorem wp_region_K {id:Nat} {a:Act} {w:World} (S:World→Prop) (k n:Nat) (hm:P.follows .mixedOrders=true) (hn:ops.size=n) (hS:S w.drew)
 (h:S w.drew→bI P .any ops Q S k n (Array.replicate n false) a w.drew):(Code.region id ops true).wp P Q a w:=by
 subst hn
 exact wp_region_any hm (wpAny_of_K _ _ _ _ (h hS))
end
theorem tkA {α:Type} (l:List α) (i:Nat) (a:α):l.toArray.setIfInBounds i a=(l.set i a).toArray:=List.setIfInBounds_toArray _ _ _
theorem tkB {α:Type} (x:α) (l:List α) (a:α):(x::l).set 0 a=a::l:=rfl
theorem tkC {α:Type} (x:α) (l:List α) (n:Nat) (a:α):(x::l).set (n+1) a=x::l.set n a:=rfl
section
variable {P:Program} {ops:Array Oper} {Q:Exit→Act→World→Prop} {md:Region.Mode} {S:World→Prop} {k:Nat}
theorem tkK {i:Nat} (path:List Nat) {t:Option Tmp} {op:Op} {ty:TypeId} {pos:String} {aft:Array Edge} {gd:Option (Nat×Bool)} {v:Value} {fuel:Nat} {listed:Array Bool} {a:Act} {w:World} (hi:ops[i]?=some ⟨t,op,ty,pos,aft,gd⟩) (hS:S w)
 (h:bI P md ops Q S k fuel (listed.setIfInBounds i true) (a.put t v) w)
 (hy:∀ w,S w→Sem.run P (execOp a.eval ⟨t,op,ty,pos,aft,gd⟩) w= .ok (.value v) w:=by(intro w hSw;(try dsimp only at hSw);go_simp;with_reducible rfl))
 (hw:Region.wanted ⟨t,op,ty,pos,aft,gd⟩ (yielded ops a.tmps)=true:=by rfl)
 (hs:Region.noSelect ops=true:=by kernel_rfl) (hf:Region.free md ops listed i=true:=by kernel_rfl) (hr:(Region.ready md ops listed).contains i=true:=by kernel_rfl)
 (hk:(!path.contains i&&path.contains k&&Region.row md ops (i::path)&&(i::path).all (fun b=>listed.getD b true == false))=true:=by kernel_rfl)
 (hQ:∀ c a w,Q (.panic c) (a.put t v) w→Q (.panic c) a w:=by exact fun _ _ _ h=>h):bI P md ops Q S k (fuel+1) listed a w:=
 iR path hi hs hf hr hk hQ (.inl ⟨hw,hy⟩) hS h
theorem bM {i:Nat} {t:Option Tmp} {op:Op} {ty:TypeId} {pos:String} {aft:Array Edge} {gd:Option (Nat×Bool)} {fuel:Nat} {listed:Array Bool} {a:Act} {w:World} (hi:ops[i]?=some ⟨t,op,ty,pos,aft,gd⟩)
 (h:∀ K':Act→World→Prop,Shut (∀ a w,S w→(S w→bI P md ops Q S k fuel (listed.setIfInBounds i true) a w)→K' a w)→
  if Region.wanted ⟨t,op,ty,pos,aft,gd⟩ (yielded ops a.tmps)=true then Oper.wp P ⟨t,op,ty,pos,aft,gd⟩ a w K' Q else K' (a.put t undef) w)
 (hr:Region.ready md ops listed=[i]:=by kernel_rfl) (hk:(listed.setIfInBounds i true).getD k true=false:=by kernel_rfl):bI P md ops Q S k (fuel+1) listed a w:=
 wpAnyK_one hr hi h hk
theorem tkL {t:Option Tmp} {op:Op} {ty:TypeId} {pos:String} {aft:Array Edge} {gd:Option (Nat×Bool)} {fuel:Nat} {listed:Array Bool} {a:Act} {w:World} (hi:ops[k]?=some ⟨t,op,ty,pos,aft,gd⟩)
 (h:∀ K':Act→World→Prop,Shut (∀ a w,bI P md ops Q S k fuel (listed.setIfInBounds k true) a w→K' a w)→
  if Region.wanted ⟨t,op,ty,pos,aft,gd⟩ (yielded ops a.tmps)=true then Oper.wp P ⟨t,op,ty,pos,aft,gd⟩ a w K' Q else K' (a.put t undef) w)
 (hr:Region.ready md ops listed=[k]:=by kernel_rfl) (hk:(listed.setIfInBounds k true).getD k true=true:=by kernel_rfl):bI P md ops Q S k (fuel+1) listed a w:=
 wpAnyK_last hr hi h hk
theorem tkD {listed:Array Bool} {a:Act} {w:World} {fuel:Nat} (h:Q .normal a w) (hr:Region.ready md ops listed=[]:=by kernel_rfl):bI P md ops Q S k fuel listed a w:=wpAnyK_done hr h fuel
theorem dQ {id:Nat} {a:Act} {w:World} (S:World→Prop) (k n:Nat) (hS:S w.drew)
 (h:S w.drew→bI P .any ops Q S k n (Array.replicate n false) a w.drew) (hm:P.follows .mixedOrders=true:=by kernel_rfl) (hn:ops.size=n:=by kernel_rfl):(Code.region id ops true).wp P Q a w:=
 wp_region_K S k n hm hn hS h
def TkW (_:List (List Nat)) (X:Prop):Prop:=X
theorem tkP0 {X:Prop} (h:X):TkW [] X:=h
theorem tkP1 {i:Nat} {p:List Nat} {l:List (List Nat)} {t:Option Tmp} {op:Op} {ty:TypeId} {pos:String} {aft:Array Edge} {gd:Option (Nat×Bool)} {v:Value} {fuel:Nat} {listed:Array Bool} {a:Act} {w:World} (hi:ops[i]?=some ⟨t,op,ty,pos,aft,gd⟩) (hS:S w)
 (h:TkW l (bI P md ops Q S k fuel (listed.setIfInBounds i true) (a.put t v) w))
 (hy:∀ w,S w→Sem.run P (execOp a.eval ⟨t,op,ty,pos,aft,gd⟩) w= .ok (.value v) w:=by(intro w hSw;(try dsimp only at hSw);go_simp;with_reducible rfl))
 (hw:Region.wanted ⟨t,op,ty,pos,aft,gd⟩ (yielded ops a.tmps)=true:=by rfl)
 (hs:Region.noSelect ops=true:=by kernel_rfl) (hf:Region.free md ops listed i=true:=by kernel_rfl) (hr:(Region.ready md ops listed).contains i=true:=by kernel_rfl)
 (hk:(!(p++[k]).contains i&&(p++[k]).contains k&&Region.row md ops (i::(p++[k]))&&(i::(p++[k])).all (fun b=>listed.getD b true == false))=true:=by kernel_rfl)
 (hQ:∀ c a w,Q (.panic c) (a.put t v) w→Q (.panic c) a w:=by exact fun _ _ _ h=>h):TkW ((i::p)::l) (bI P md ops Q S k (fuel+1) listed a w):=
 iR (p++[k]) hi hs hf hr hk hQ (.inl ⟨hw,hy⟩) hS h
theorem tkP2 {i:Nat} {p:List Nat} {l:List (List Nat)} {t:Option Tmp} {op:Op} {ty:TypeId} {pos:String} {aft:Array Edge} {gd:Option (Nat×Bool)} {fuel:Nat} {listed:Array Bool} {a:Act} {w:World} (hi:ops[i]?=some ⟨t,op,ty,pos,aft,gd⟩) (hS:S w)
 (h:TkW l (bI P md ops Q S k fuel (listed.setIfInBounds i true) (a.put t undef) w))
 (hw:Region.wanted ⟨t,op,ty,pos,aft,gd⟩ (yielded ops a.tmps)=false:=by rfl)
 (hs:Region.noSelect ops=true:=by kernel_rfl) (hf:Region.free md ops listed i=true:=by kernel_rfl) (hr:(Region.ready md ops listed).contains i=true:=by kernel_rfl)
 (hk:(!(p++[k]).contains i&&(p++[k]).contains k&&Region.row md ops (i::(p++[k]))&&(i::(p++[k])).all (fun b=>listed.getD b true == false))=true:=by kernel_rfl)
 (hQ:∀ c a w,Q (.panic c) (a.put t undef) w→Q (.panic c) a w:=by exact fun _ _ _ h=>h):TkW (((i+1000)::p)::l) (bI P md ops Q S k (fuel+1) listed a w):=
 iR (p++[k]) hi hs hf hr hk hQ (.inr ⟨hw,rfl⟩) hS h
theorem bH {K:Act→World→Prop} {X:Act→World→Prop} (hK:Shut (∀ a w,S w→(S w→X a w)→K a w)) {a:Act} {w:World} (hs:S w) {Y:Prop} (y:Y) (h:Y→S w→X a w:=by(intro y hH;(try simp only[Act.put,tkA,tkB,tkC]);revert hH;exact y)):K a w:=hK.out _ _ hs (h y)
end
theorem bU (l:List (List Nat)) {X Y Z:Prop} (z:Z) (y:Y) (h:Z→Y→TkW l X:=by(intro z y;(repeat ((first|refine tkP1 rfl z ?_|refine tkP2 rfl z ?_);try simp only[Act.put,tkA,tkB,tkC]));exact tkP0 y)):X:=h z y
theorem eU {X Y:Prop} (y:Y) (h:Y→X:=by(intro y;refine tkL rfl (fun K hK=>?_);go_simp;exact hK.out _ _ (tkD y))):X:=h y
end
section
open Go.RowKit
def GrW (w w':World):Prop:=∃ (q:Nat) (os:Array Obj),w'=Sort.grow (w.drewN q) os
theorem GrW.refl (w:World):GrW w w:=⟨0,#[],by rw[Sort.grow_empty];rfl⟩
theorem GrW.trans {a b c:World} (h:GrW a b) (k:GrW b c):GrW a c:=by
 obtain⟨q,os,rfl⟩:=h
 obtain⟨r,ps,rfl⟩:=k
 exact⟨q+r,os++ps,by simp[Sort.grow,World.drewN,Nat.add_assoc]⟩
theorem GrW.alloc {a b:World} (h:GrW a b) (o:Obj):GrW a (b.alloc o):=h.trans ⟨0,#[o],by rw[Sort.alloc_eq_grow];rfl⟩
theorem GrW.drew {a b:World} (h:GrW a b):GrW a b.drew:=h.trans ⟨1,#[],by rw[Sort.grow_empty];rfl⟩
theorem isnan_any (x:Int) (w:World):Calls Tryz.prog 272 #[.int .i64 x] w fun e w'=>e= .returned (.bool false)∧w'=w:=by
 go_enter Tryz.func272,Tryz.ntmps272
 go_wp2
 go_ret
 exact⟨by simp,rfl⟩
theorem lT (x y:Int) (w:World):Calls Tryz.prog 215 #[.int .i64 x,.int .i64 y] w fun e w'=>e= .returned (.int .i64 (cI x y))∧w'=w:=by
 unfold cI
 by_cases h1:x<y
 · rw[if_pos h1]
   go_enter Tryz.func215,Tryz.ntmps215
   go_wp2_with (go_at_call 272;refine(isnan_any _ _).mono ?_;rintro e w' ⟨rfl,rfl⟩)
   go_ret
   exact⟨rfl,rfl⟩
 · rw[if_neg h1]
   by_cases h2:y<x
   · rw[if_pos h2]
     go_enter Tryz.func215,Tryz.ntmps215
     go_wp2_with (go_at_call 272;refine(isnan_any _ _).mono ?_;rintro e w' ⟨rfl,rfl⟩)
     go_ret
     exact⟨rfl,rfl⟩
   · rw[if_neg h2]
     go_enter Tryz.func215,Tryz.ntmps215
     go_wp2_with (go_at_call 272;refine(isnan_any _ _).mono ?_;rintro e w' ⟨rfl,rfl⟩)
     go_ret
     exact⟨rfl,rfl⟩
theorem or_any {x y:Int} {b c:Nat} {w:World} (c0:w.cell? ⟨b,0,none⟩=some (.int .i64 x)) (c1:w.cell? ⟨b,1,none⟩=some (.int .i64 y)):Calls Tryz.prog 213 #[.slice (some ⟨b,0,none⟩) 2 c] w fun e w'=>e= .returned (.int .i64 (orI x y))∧w'=w:=by
 unfold orI
 by_cases h0:x=0
 · subst h0
   rw[if_neg (by simp)]
   go_enter Tryz.func213,Tryz.ntmps213
   go_wp2_with fail
   go_loopw [8] (fun y8 wr=>wr=w∧(y8= .int .i64 0∨y8= .int .i64 1∨(y8= .int .i64 2∧y=0))) (fun y8 _=>3 - (intOf y8).toNat)
   case atStart=>exact⟨by first|rfl|trivial,.inl rfl⟩
   case round=>
    obtain⟨rfl,rfl|rfl|⟨rfl,rfl⟩⟩:=hrel
    · go_wp2_with fail
      go_roundw
      case rel=>exact⟨by first|rfl|trivial,.inr (.inl rfl)⟩
      case measure=>simp[intOf]
    · by_cases hy:y=0
      · subst hy
        go_wp2_with fail
        go_roundw
        case rel=>exact⟨by first|rfl|trivial,.inr (.inr ⟨rfl,by first|rfl|trivial⟩)⟩
        case measure=>simp[intOf]
      · have t1:(y != 0)=true:=by simpa using hy
        go_wp2_with fail
        go_ret
        exact⟨rfl,rfl⟩
    · go_wp2_with fail
      go_ret
      exact⟨rfl,rfl⟩
 · have t1:(x != 0)=true:=by simpa using h0
   rw[if_pos h0]
   go_enter Tryz.func213,Tryz.ntmps213
   go_wp2_with fail
   go_loopw [8] (fun y8 wr=>wr=w∧y8= .int .i64 0) (fun y8 _=>3 - (intOf y8).toNat)
   case atStart=>first|exact⟨trivial,trivial⟩|exact⟨rfl,rfl⟩|simp
   case round=>
    obtain⟨rfl,rfl⟩:=hrel
    go_wp2_with fail
    go_ret
    exact⟨rfl,rfl⟩
theorem notes1_any (p q:KV) (w:World):Calls Tryz.prog 218 #[.agg (cNt p).toArray,.agg (cNt q).toArray] w fun e w'=>e= .returned (.int .i64 (kc p.1 q.1))∧GrW w w':=by
 show Calls Tryz.prog 218 #[.agg #[.string p.1,.string p.2],.agg #[.string q.1,.string q.2]] w _
 go_enter Tryz.func218,Tryz.ntmps218
 go_wp2_with (go_at_call 67;refine(bS _ _ _).mono ?_;rintro e w' ⟨rfl,rfl⟩)
 go_ret
 exact⟨rfl,((GrW.refl _).alloc _).alloc _⟩
end
end Go.Proofs.YtpfibkgmfapnjaaGreatDoor
