/- Plain facts on check sums (no program): one bit step is one to one on 32 bits, so bytes of which one is changed have another sum. -/
import GoSem.Claim
import Derived.Test.YtpfibkgmfapnjaaGreatDoorRows
import Derived.WalkKit
import Derived.WalkSpells
import Derived.WalkLawsBesides
import Derived.Laws.IdiomStrings
import Derived.Laws.BytesArg
import Derived.Lib.Hide
import Derived.Deep.QuietTactic
import Derived.BigQuiet
import Derived.Deep.RegionLaw
import Derived.Test.YtpfibkgmfapnjaaGreatDoorS2
set_option linter.unusedSimpArgs false
set_option linter.unusedVariables false
namespace Go.Proofs.YtpfibkgmfapnjaaGreatDoor
namespace Rw
def bit1 (x:Nat):Nat:=if x%2=1 then(x/2) ^^^ 2197175160 else x/2
def bitsK:Nat→Nat→Nat
 |0,x=>x
 |k+1,x=>bit1 (bitsK k x)
def sumStep (x:Nat) (c:UInt8):Nat:=bitsK 8 (x ^^^ c.toNat)
def sumTo (l:List UInt8) (x:Nat):Nat:=l.foldl sumStep x
def sumF (l:List UInt8):Nat:=sumTo l 4294967295 ^^^ 4294967295
theorem xor_lt {a b:Nat} (ha:a<4294967296) (hb:b<4294967296):a ^^^ b<4294967296:=
 Nat.xor_lt_two_pow (n:=32) ha hb
theorem bit1_lt {x:Nat} (h:x<4294967296):bit1 x<4294967296:=by
 unfold bit1;split
 · exact xor_lt (by omega) (by omega)
 · omega
theorem bitsK_lt (k:Nat) {x:Nat} (h:x<4294967296):bitsK k x<4294967296:=by
 induction k with
 |zero=>exact h
 |succ k ih=>exact bit1_lt ih
theorem byte_lt (c:UInt8):c.toNat<4294967296:=Nat.lt_trans c.toNat_lt (by omega)
theorem sumStep_lt {x:Nat} (h:x<4294967296) (c:UInt8):sumStep x c<4294967296:=bitsK_lt 8 (xor_lt h (byte_lt c))
theorem sumTo_lt (l:List UInt8):∀ {x:Nat},x<4294967296→sumTo l x<4294967296:=by
 induction l with
 |nil=>exact fun h=>h
 |cons c l ih=>exact fun h=>ih (sumStep_lt h c)
theorem sumF_lt (l:List UInt8):sumF l<4294967296:=xor_lt (sumTo_lt l (by omega)) (by omega)
theorem sumTo_append (a b:List UInt8) (x:Nat):sumTo (a++b) x=sumTo b (sumTo a x):=List.foldl_append ..
theorem sumTo_snoc (l:List UInt8) (c:UInt8) (x:Nat):sumTo (l++[c]) x=sumStep (sumTo l x) c:=by rw[sumTo_append];rfl
theorem take_snoc (s:ByteArray) (k:Nat) (h:k<s.size):s.data.toList.take (k+1)=s.data.toList.take k++[s[k]]:=by
 rw[List.take_succ_eq_append_getElem (by simpa using h)];rfl
def sumAt (s:ByteArray) (k:Nat):Nat:=sumTo (s.data.toList.take k) 4294967295
theorem sumAt_lt (s:ByteArray) (k:Nat):sumAt s k<4294967296:=sumTo_lt _ (by omega)
theorem sumAt_succ (s:ByteArray) (k:Nat) (h:k<s.size):sumAt s (k+1)=bitsK 8 (sumAt s k ^^^ s[k].toNat):=by
 unfold sumAt;rw[take_snoc s k h,sumTo_snoc];rfl
theorem sumAt_end (s:ByteArray):sumAt s s.size=sumTo s.data.toList 4294967295:=by
 unfold sumAt;rw[List.take_of_length_le (by simp)]
end Rw
section
open Go.RowKit
theorem lZ (g off j:Nat):(⟨g,off,none⟩:Addr).add j=⟨g,off+j,none⟩:=by
 unfold Addr.add
 split
 · rename_i h
   have h0:j=0:=by simpa using h
   subst h0
   rfl
 · rfl
def dP (l:List UInt8):List Value:=l.map fun c=> .int .u8 (c.toNat:Int)
theorem bCells_len (l:List UInt8):(dP l).length=l.length:=by simp[dP]
def OwnB (w:World) (B:Nat) (v:Value) (l:List UInt8):Prop:=w.ownsRow B 5 1 v l.length (dP l)
theorem OwnB.nil (w:World) (B:Nat):OwnB w B (.slice none 0 0) []:=World.ownsRow_nil _ _ _ _
theorem OwnB.alloc {w:World} {B:Nat} {v:Value} {l:List UInt8} (h:OwnB w B v l) (o:Obj):OwnB (w.alloc o) B v l:=World.ownsRow.alloc h o
theorem info_u8:(Tryz.prog.info? 5).map (fun i=>(i.zero,i.size,i.bytes))=some (some (.int .u8 0),1,1):=by kernel_rfl
theorem OwnB.str {w:World} {B:Nat} {v:Value} {l:List UInt8} (h:OwnB w B v l):
 (convert 114 9 v).run Tryz.prog w= .ok (.string ⟨l.toArray⟩) w:=by
 obtain⟨_,h2⟩:=h
 rcases h2 with⟨rfl,h0⟩|⟨g,cap,cur,rfl,hg,hh,hn,hcap,hsz,htake⟩
 · have:l=[]:=by simpa using h0
   subst this
   exact run_convert_bytes_nil w 114 5 Tryz.underlying114 Tryz.underlying5 0 0 9 Tryz.underlying9
 · refine run_convert_bytes_back w 114 9 5 ⟨g,0,none⟩ cap l Tryz.underlying114 Tryz.underlying5 Tryz.underlying9 fun j hj=>?_
   have e:(dP l)[j]?=some (.int .u8 (l[j].toNat:Int)):=by simp[dP,hj]
   have hjn:j<l.length*1:=by omega
   rw[← htake,List.getElem?_take,if_pos hjn]at e
   rw[lZ]
   simp only[World.cell?,hh,Nat.zero_add]
   simpa using e
theorem iM {w:World} {ops:Array Oper} {rest:List Oper} {o:Oper} {a:Act} {Q:Exit→Act→World→Prop} (hgd:o.guard=none)
 (s x:Operand) (ho:o.op= .call {callee:= .builtin .append,args:= #[s,x],argTypes:= #[114,114]}) (B:Nat) (v:Value) (l:List UInt8)
 (hs:a.eval s=v) (hown:OwnB w B v l) (ad:Addr) (m c:Nat) (news:List UInt8) (hx:a.eval x= .slice (some ad) m c) (hm:news.length=m)
 (hnews:∀ j u,(dP news)[j]?=some u→w.cell? (ad.add j)=some u) (hlen:l.length+m≤140737488355328) (hbase:B≤w.heap.size)
 (h:∀ v' w',OwnB w' B v' (l++news)→w.grownBy w' v.ownBlock→wpList Tryz.prog ops Q rest (a.put o.dst v') w'):
 wpList Tryz.prog ops Q (o::rest) a w:=by
 obtain⟨i,hi,hz,hsz,hby⟩:=info_parts info_u8
 refine wpList_append_own w hgd s x 114 ho B 5 i (.int .u8 0) 1 1 Tryz.underlying114 hi hz hsz hby rfl (by decide) v l.length (dP l) hs hown ad m c (dP news) hx
  (by rw[bCells_len];omega) hnews ?_ (by unfold maxLen;omega) (by omega) hbase ?_
 · intro u hu
   simp only[dP,List.mem_map]at hu
   obtain⟨c,_,rfl⟩:=hu
   rfl
 · intro v' w' h1 h2 _
   refine h v' w' ?_ h2
   unfold OwnB
   rw[List.length_append,hm,dP,List.map_append]
   exact h1
theorem below_app {B B':Nat} {w wr w1:World} {v:Value} {l:List UInt8} {o:Obj} (hb:Below B w wr) (hown:OwnB wr B' v l) (hB:B≤B') (hsz:B≤wr.heap.size)
 (hg:(wr.alloc o).grownBy w1 v.ownBlock):Below B w w1:=
 (hb.alloc hsz o).grown hg (by simp;omega) fun k hk=>by have:=hown.lt k hk;omega
theorem new_b (w:World) (news:List UInt8) (arr:Array Value) (t:TypeId) (h:arr=(dP news).toArray):∀ j u,(dP news)[j]?=some u→(w.alloc (.cells arr t)).cell? ((⟨w.heap.size,0,none⟩:Addr).add j)=some u:=by
 intro j u hj
 subst h
 rw[lZ,Nat.zero_add,World.cell?_alloc_mark]
 simpa using hj
def Buf (w:World) (B N i:Nat) (l:List UInt8):Prop:=
 ∃ arr T,w.heap[B]?=some (.cells arr T)∧arr.size=N∧i+l.length=N∧arr.toList.drop i=dP l
theorem Buf.some_cell {w:World} {B N i:Nat} {l:List UInt8} (h:Buf w B N i l) (j:Nat) (hj:j<N):∃ v,w.cell? ⟨B,j,none⟩=some v:=by
 obtain⟨arr,T,hh,hs,_,_⟩:=h
 exact⟨arr[j]'(by omega),by simp[World.cell?,hh,hs,hj]⟩
theorem Buf.free {w:World} {B N i:Nat} {l:List UInt8} (h:Buf w B N i l) (j:Nat):w.frozen? ⟨B,j,none⟩=false:=by
 obtain⟨arr,T,hh,hs,_,_⟩:=h
 simp[World.frozen?,hh]
theorem Buf.cell {w:World} {B N i:Nat} {l:List UInt8} (h:Buf w B N i l) (j:Nat) (hj:j<l.length):w.cell? ⟨B,i+j,none⟩=some (.int .u8 (l[j].toNat:Int)):=by
 obtain⟨arr,T,hh,hs,hi,hd⟩:=h
 have e:(dP l)[j]?=some (.int .u8 (l[j].toNat:Int)):=by simp[dP,hj]
 rw[← hd,List.getElem?_drop]at e
 simp only[World.cell?,hh]
 simpa using e
theorem Buf.step {w:World} {B N k i:Nat} {l:List UInt8} (h:Buf w B N k l) (c:UInt8) (hk:k=i+1):Buf (w.setCell ⟨B,i,none⟩ (.int .u8 (c.toNat:Int))) B N i (c::l):=by
 subst hk
 obtain⟨arr,T,hh,hs,hi,hd⟩:=h
 refine⟨arr.setIfInBounds i (.int .u8 (c.toNat:Int)),T,?_,by simp[hs],by simp;omega,?_⟩
 · show(w.heap.modify B _)[B]?=_
   rw[Array.getElem?_modify,if_pos rfl,hh]
   rfl
 · have hi':i<(arr.toList.set i (.int .u8 (c.toNat:Int))).length:=by simp;omega
   rw[Array.toList_setIfInBounds,List.drop_eq_getElem_cons hi',List.getElem_set_self,List.drop_set_of_lt (by omega),hd]
   rfl
theorem Buf.str {w:World} {B N i:Nat} {l:List UInt8} (h:Buf w B N i l) (n:Nat) (hn:n=l.length):
 (convert 114 9 (.slice (some ⟨B,i,none⟩) n n)).run Tryz.prog w= .ok (.string ⟨l.toArray⟩) w:=by
 subst hn
 refine run_convert_bytes_back w 114 9 5 ⟨B,i,none⟩ l.length l Tryz.underlying114 Tryz.underlying5 Tryz.underlying9 fun j hj=>?_
 rw[lZ]
 exact h.cell j hj
theorem ret_s {a b:ByteArray} (h:a=b):Ending.returned (.string a)= .returned (.string b):=by rw[h]
theorem val_i {k:IntKind} {a b:Int} (h:a=b):Value.int k a= .int k b:=by rw[h]
def jL (w:World) (B:Nat) (l:List UInt8):Prop:=∀ (j:Nat) (hj:j<l.length),w.cell? ⟨B,j,none⟩=some (.int .u8 (l[j].toNat:Int))∧w.frozen? ⟨B,j,none⟩=false
theorem jL.str {w:World} {B:Nat} {l:List UInt8} (h:jL w B l) (n cap:Nat) (hn:n=l.length):
 (convert 114 9 (.slice (some ⟨B,0,none⟩) n cap)).run Tryz.prog w= .ok (.string ⟨l.toArray⟩) w:=by
 subst hn
 refine run_convert_bytes_back w 114 9 5 ⟨B,0,none⟩ cap l Tryz.underlying114 Tryz.underlying5 Tryz.underlying9 fun j hj=>?_
 rw[lZ,Nat.zero_add]
 exact(h j hj).1
theorem jL.set {w:World} {B:Nat} {l:List UInt8} (h:jL w B l) (k:Nat) (c:UInt8):jL (w.setCell ⟨B,k,none⟩ (.int .u8 (c.toNat:Int))) B (l.set k c):=by
 intro j hj
 have hj':j<l.length:=by simpa using hj
 refine⟨?_,by rw[World.frozen?_setCell];exact(h j hj').2⟩
 by_cases hjk:j=k
 · subst hjk
   rw[World.cell?_setCell_same _ _ _ (h j hj').1]
   simp
 · rw[World.cell?_setCell_other _ _ _ _ (by intro e;injection e with _ e2;exact hjk e2.symm)]
   rw[List.getElem_set_ne (by omega)]
   exact(h j hj').1
theorem conv_b (s:ByteArray) (w:World):∃ cap W,Below w.heap.size w W∧W.heap.size=w.heap.size+1∧jL W w.heap.size s.data.toList∧
 (convert 9 114 (.string s)).run Tryz.prog w= .ok (.slice (some ⟨w.heap.size,0,none⟩) s.size cap) W:=by
 have h:=run_bytes_of_string (P:=Tryz.prog) w 9 114 5 s Tryz.underlying9 Tryz.underlying114 Tryz.underlying5
 refine⟨_,_,?_,?_,?_,h⟩
 · exact(Below.refl _ _).drew.alloc (Nat.le_refl _) _
 · simp
 · intro j hj
   have hj2:j<s.data.size:=by simpa using hj
   constructor
   · rw[show w.heap.size=w.drew.heap.size from rfl,World.cell?_alloc_mark,bytesRow_at s _ j hj2]
     simp
   · rw[show w.heap.size=w.drew.heap.size from rfl,World.frozen?_alloc_mark]
     have:s.data.size≤(bytesRow s (grownCap w s.size 0 5)).size:=by simp[bytesRow]
     simp
     omega
structure HW (w:World) where
 val:World
 ok:Below w.heap.size w val
instance (w:World):Nonempty (HW w):=⟨⟨w,Below.refl _ _⟩⟩
end
namespace Rw
def beF:Nat→Nat→List UInt8
 |0,_=>[]
 |k+1,v=>UInt8.ofNat (v/256 ^ k)::beF k v
theorem beF_len (k v:Nat):(beF k v).length=k:=by
 induction k with
 |zero=>rfl
 |succ k ih=>simp[beF,ih]
def putOk (v n:Int):Bool:=decide (1≤n)&&decide (n≤7)&&decide (0≤v)&&decide (v.toNat<256 ^ n.toNat)
end Rw
section
open Go.RowKit
theorem w64 {n:Int} (h0: -9223372036854775808≤n) (h1:n≤9223372036854775807):wrap64 n=n:=by unfold wrap64;omega
def Rw.beV (l:List UInt8):Nat:=l.foldl (fun v c=>v*256+c.toNat) 0
theorem Rw.beV_snoc (l:List UInt8) (c:UInt8):Rw.beV (l++[c])=Rw.beV l*256+c.toNat:=by simp[Rw.beV]
theorem beV_from (l:List UInt8):∀ a:Nat,l.foldl (fun v c=>v*256+c.toNat) a<(a+1)*256 ^ l.length:=by
 induction l with
 |nil=>intro a;simp
 |cons c l ih=>
  intro a
  have h:=ih (a*256+c.toNat)
  have hc:=c.toNat_lt
  rw[List.foldl_cons,List.length_cons,Nat.pow_succ]
  refine Nat.lt_of_lt_of_le h ?_
  rw[Nat.mul_comm (256 ^ l.length) 256,←Nat.mul_assoc]
  exact Nat.mul_le_mul_right _ (by omega)
theorem Rw.beV_lt (l:List UInt8):Rw.beV l<256 ^ l.length:=by
 have:=beV_from l 0
 simpa[Rw.beV]using this
def getOk (l:List UInt8):Bool:=decide (1≤l.length)&&decide (l.length≤7)
def iF (l:List UInt8):Value:=if getOk l then .tuple #[.int .i64 (Rw.beV l:Int),.int .i64 0]else .tuple #[.int .i64 0,.int .i64 1]
theorem get_bits (v:Nat) (c:UInt8) (hv:v<36028797018963968):bits .or .i64 (wrap64 ((v:Int)*256)) (wrap64 (c.toNat:Int))=((v*256+c.toNat:Nat):Int):=by
 have hc:=c.toNat_lt
 rw[w64 (by omega) (by omega),w64 (by omega) (by omega)]
 have h:=(bits_nat .i64 63 (by decide) (fun n h0 h1=>by exact IntWalk.i64_in _ (by omega)) (v*256) c.toNat (by omega) (by omega)).2
 have hor:=Nat.two_pow_add_eq_or_of_lt (i:=8) (b:=c.toNat) (by omega) v
 rw[show 2 ^ 8*v=v*256 from by omega]at hor
 rw[show(v:Int)*256=((v*256:Nat):Int) from by omega,h,hor]
set_option maxRecDepth 100000 in
theorem get_any (s:ByteArray) (w:World) (hs:s.size≤maxLen):
 Calls Tryz.prog 335 #[.string s] w fun e w'=>e= .returned (iF s.data.toList)∧w=w':=by
 unfold maxLen at hs
 by_cases h1:s.size=0
 · have hb:decide ((s.size:Int)<1)=true:=by simp;omega
   have Hans:Hid (iF s.data.toList= .tuple #[.int .i64 0,.int .i64 1]):=by
    unfold iF getOk;rw[if_neg (by simp[h1])];exact rfl
   clear h1
   go_enter Tryz.func335,Tryz.ntmps335
   go_wp2
   go_ret2
   exact⟨by rw[Hans.out];rfl,rfl⟩
 · have hb:decide ((s.size:Int)<1)=false:=by simp;omega
   by_cases h7:7<s.size
   · have hb7:decide (7<(s.size:Int))=true:=by simp;omega
     have Hans:Hid (iF s.data.toList= .tuple #[.int .i64 0,.int .i64 1]):=by
      unfold iF getOk;rw[if_neg (by simp;omega)];exact rfl
     go_enter Tryz.func335,Tryz.ntmps335
     go_wp2
     go_ret2
     exact⟨by rw[Hans.out];rfl,rfl⟩
   · have hb7:decide (7<(s.size:Int))=false:=by simp;omega
     have Hans:Hid (iF s.data.toList= .tuple #[.int .i64 (Rw.beV s.data.toList:Int),.int .i64 0]):=by
      unfold iF getOk;rw[if_pos (by simp;omega)];exact rfl
     go_enter Tryz.func335,Tryz.ntmps335
     go_wp2
     go_loop [4,16] (fun x y=>∃ i:Nat,i≤s.size∧y= .int .i64 (i:Int)∧x= .int .i64 (Rw.beV (s.data.toList.take i):Int)) (fun _ y=>s.size - (intOf y).toNat)
     case atStart=>exact⟨0,by omega,rfl,rfl⟩
     case round=>
      obtain⟨i,hi,rfl,rfl⟩:=hrel
      by_cases hlt:i<s.size
      · have hsn:Rw.beV (s.data.toList.take (i+1))=Rw.beV (s.data.toList.take i)*256+s[i].toNat:=by
         rw[List.take_succ_eq_append_getElem (by simpa using hlt),Rw.beV_snoc];rfl
        have hv:Rw.beV (s.data.toList.take i)<36028797018963968:=by
         have h:=Rw.beV_lt (s.data.toList.take i)
         have h2:256 ^ (s.data.toList.take i).length≤256 ^ 6:=Nat.pow_le_pow_right (by decide) (by have:=List.length_take_le i s.data.toList;omega)
         omega
        have hg:=get_bits _ s[i] hv
        have HS:=aB hsn
        have HV:=aB hv
        clear hsn hv
        go_wp2
        go_round
        case rel=>exact⟨i+1,by omega,by go_num,val_i (by have:=HS.out;omega)⟩
        case measure=>simp[intOf];omega
      · obtain rfl:i=s.size:=by omega
        have HT:Hid (s.data.toList.take s.size=s.data.toList):=by unfold Hid;rw[List.take_of_length_le (by simp)]
        go_wp2
        go_ret2
        exact⟨by rw[Hans.out,HT.out];rfl,rfl⟩
theorem beV_cons (c:UInt8) (l:List UInt8):Rw.beV (c::l)=c.toNat*256 ^ l.length+Rw.beV l:=by
 have key:∀ (l:List UInt8) (a:Nat),l.foldl (fun v c=>v*256+c.toNat) a=a*256 ^ l.length+Rw.beV l:=by
  intro l
  induction l with
  |nil=>intro a;simp[Rw.beV]
  |cons d l ih=>
   intro a
   unfold Rw.beV
   rw[List.foldl_cons,List.foldl_cons,ih,ih,List.length_cons,Nat.pow_succ,Nat.zero_mul,Nat.zero_add,Nat.add_mul,Nat.mul_assoc,Nat.mul_comm 256,Nat.add_assoc]
 have:=key l c.toNat
 unfold Rw.beV at this ⊢
 rw[List.foldl_cons,Nat.zero_mul,Nat.zero_add]
 exact this
theorem beF_mod (k:Nat):∀ v m:Nat,Rw.beF k (v+m*256 ^ k)=Rw.beF k v:=by
 induction k with
 |zero=>intro v m;rfl
 |succ k ih=>
  intro v m
  unfold Rw.beF
  have h1:v+m*256 ^ (k+1)=v+(m*256)*256 ^ k:=by rw[Nat.pow_succ,Nat.mul_assoc,Nat.mul_comm 256]
  have hp:0<256 ^ k:=Nat.pow_pos (by decide)
  have h2:(v+m*256 ^ (k+1))/256 ^ k=v/256 ^ k+m*256:=by
   rw[h1,Nat.add_mul_div_right _ _ hp]
  rw[h2,h1,ih]
  congr 1
  apply UInt8.toNat.inj
  simp
theorem beF_beV:∀ l:List UInt8,Rw.beF l.length (Rw.beV l)=l
 |[]=>rfl
 |c::l=>by
  rw[List.length_cons,beV_cons]
  unfold Rw.beF
  have hp:0<256 ^ l.length:=Nat.pow_pos (by decide)
  have h1:=Rw.beV_lt l
  rw[Nat.add_comm,Nat.add_mul_div_right _ _ hp,Nat.div_eq_of_lt h1,Nat.zero_add,beF_mod,beF_beV l]
  congr 1
  apply UInt8.toNat.inj
  simp
end
section
open Go.RowKit Go.Lib
theorem beV_beF:∀ (k v:Nat),v<256 ^ k→Rw.beV (Rw.beF k v)=v
 |0,v,h=>by simp at h;subst h;rfl
 |k+1,v,h=>by
  have hp:0<256 ^ k:=Nat.pow_pos (by decide)
  unfold Rw.beF
  have hd:v/256 ^ k<256:=by
   rw[Nat.div_lt_iff_lt_mul hp,Nat.mul_comm]
   rw[Nat.pow_succ]at h
   exact h
  have hm:=Nat.div_add_mod v (256 ^ k)
  have h1:Rw.beF k v=Rw.beF k (v%256 ^ k):=by
   conv=>lhs;rw[← hm,Nat.add_comm,Nat.mul_comm]
   exact beF_mod k _ _
  rw[beV_cons,Rw.beF_len,h1,beV_beF k _ (Nat.mod_lt _ hp)]
  have h2:(UInt8.ofNat (v/256 ^ k)).toNat=v/256 ^ k:=by
   rw[UInt8.toNat_ofNat']
   exact Nat.mod_eq_of_lt hd
  rw[h2,Nat.mul_comm]
  exact hm
def sumL (r:List UInt8):List UInt8:=Rw.beF 4 (Rw.sumF (Rw.beF 4 (r.length+1)++r))
def cF (r:List UInt8):List UInt8:=Rw.beF 4 (r.length+1)++sumL r++r
theorem sumL_len (r:List UInt8):(sumL r).length=4:=Rw.beF_len _ _
theorem eF (r:List UInt8):(cF r).length=8+r.length:=by
 unfold cF
 rw[List.length_append,List.length_append,Rw.beF_len,sumL_len]
def aX (rs:List (List UInt8)):List UInt8:=rs.flatMap cF
theorem fD (r:List UInt8) (rs:List (List UInt8)):aX (r::rs)=cF r++aX rs:=List.flatMap_cons
theorem kU (a b:List (List UInt8)):aX (a++b)=aX a++aX b:=List.flatMap_append
theorem frames_nil:aX []=[]:=rfl
theorem kT (r:List UInt8):aX [r]=cF r:=by rw[fD,frames_nil,List.append_nil]
def cP (l:List UInt8):Option (List UInt8):=
 if l.length<8∨Rw.beV (l.take 4)<1∨131072<Rw.beV (l.take 4) - 1∨l.length - 8<Rw.beV (l.take 4) - 1∨cF ((l.drop 8).take (Rw.beV (l.take 4) - 1))≠l.take (7+Rw.beV (l.take 4))then none
 else some ((l.drop 8).take (Rw.beV (l.take 4) - 1))
theorem kN {l r:List UInt8} (h:cP l=some r):l=cF r++l.drop (8+r.length)∧r.length≤131072∧8+r.length≤l.length:=by
 unfold cP at h
 split at h
 · cases h
 · rename_i hn
   simp only[not_or,Nat.not_lt,Decidable.not_not]at hn
   obtain⟨h1,h2,h3,h4,h5⟩:=hn
   have hr:r=(l.drop 8).take (Rw.beV (l.take 4) - 1):=(Option.some.inj h).symm
   have hl:r.length=Rw.beV (l.take 4) - 1:=by rw[hr,List.length_take,List.length_drop];omega
   refine⟨?_,by omega,by omega⟩
   rw[← hr]at h5
   rw[h5,show 8+r.length=7+Rw.beV (l.take 4) by omega,List.take_append_drop]
theorem take4 (r t:List UInt8):(cF r++t).take 4=Rw.beF 4 (r.length+1):=by
 unfold cF
 rw[List.append_assoc,List.append_assoc,List.take_append_of_le_length (by rw[Rw.beF_len];omega)]
 exact List.take_of_length_le (by rw[Rw.beF_len];omega)
theorem drop8 (r t:List UInt8):(cF r++t).drop 8=r++t:=by
 unfold cF
 have h:(Rw.beF 4 (r.length+1)++sumL r).length=8:=by rw[List.length_append,Rw.beF_len,sumL_len]
 rw[List.append_assoc]
 conv=>lhs;rw[← h]
 exact List.drop_left
theorem recOf_frame (r t:List UInt8) (h:r.length≤131072):cP (cF r++t)=some r:=by
 unfold cP
 have hb:Rw.beV (Rw.beF 4 (r.length+1))=r.length+1:=beV_beF 4 _ (by omega)
 rw[take4,hb,drop8,Nat.add_sub_cancel]
 have hl:(cF r++t).length=8+r.length+t.length:=by rw[List.length_append,eF]
 have ht:(r++t).take r.length=r:=List.take_left
 have hk:(cF r++t).take (7+(r.length+1))=cF r:=by
  rw[show 7+(r.length+1)=(cF r).length by rw[eF];omega]
  exact List.take_left
 rw[ht,hk]
 rw[if_neg]
 simp only[not_or,Nat.not_lt,Decidable.not_not]
 exact⟨by omega,by omega,by omega,by omega,trivial⟩
def scanK:Nat→List UInt8→List (List UInt8)×Nat
 |0,_=>([],0)
 |k+1,l=>match cP l with
  |none=>([],0)
  |some r=>(r::(scanK k (l.drop (8+r.length))).1,8+r.length+(scanK k (l.drop (8+r.length))).2)
def scan (l:List UInt8):List (List UInt8)×Nat:=scanK l.length l
theorem scanK_more:∀ (k k':Nat) (l:List UInt8),l.length≤k→l.length≤k'→scanK k l=scanK k' l
 |0,k',l,h,_=>by
  have:l=[]:=List.eq_nil_of_length_eq_zero (by omega)
  subst this
  cases k' with
  |zero=>rfl
  |succ k'=>simp[scanK,cP]
 |k+1,0,l,_,h=>by
  have:l=[]:=List.eq_nil_of_length_eq_zero (by omega)
  subst this
  simp[scanK,cP]
 |k+1,k'+1,l,h,h'=>by
  unfold scanK
  cases hr:cP l with
  |none=>rfl
  |some r=>
   have:=(kN hr).2.2
   simp only
   rw[scanK_more k k' (l.drop (8+r.length)) (by rw[List.length_drop];omega) (by rw[List.length_drop];omega)]
theorem scan_none {l:List UInt8} (h:cP l=none):scan l=([],0):=by
 unfold scan
 cases l with
 |nil=>rfl
 |cons a l=>simp[scanK,h]
theorem scan_some {l r:List UInt8} (h:cP l=some r):scan l=(r::(scan (l.drop (8+r.length))).1,8+r.length+(scan (l.drop (8+r.length))).2):=by
 have hl:=(kN h).2.2
 unfold scan
 obtain⟨k,hk⟩:∃ k,l.length=k+1:=⟨l.length - 1,by omega⟩
 have e:scanK l.length l=(r::(scanK k (l.drop (8+r.length))).1,8+r.length+(scanK k (l.drop (8+r.length))).2):=by
  rw[hk]
  conv=>lhs;unfold scanK
  rw[h]
 rw[e,scanK_more k (l.drop (8+r.length)).length _ (by rw[List.length_drop];omega) (Nat.le_refl _)]
theorem scan_frames (rs:List (List UInt8)) (t:List UInt8) (h:∀ r∈rs,r.length≤131072):scan (aX rs++t)=(rs++(scan t).1,(aX rs).length+(scan t).2):=by
 induction rs with
 |nil=>simp[aX]
 |cons r rs ih=>
  rw[fD,List.append_assoc,scan_some (recOf_frame r _ (h r List.mem_cons_self))]
  have hd:(cF r++(aX rs++t)).drop (8+r.length)=aX rs++t:=by
   rw[← eF r];exact List.drop_left
  rw[hd,ih (fun r hr=>h r (List.mem_cons_of_mem _ hr))]
  simp only[List.cons_append,List.length_append,eF]
  rw[Nat.add_assoc,Nat.add_assoc,Nat.add_assoc]
theorem scan_whole (rs:List (List UInt8)) (h:∀ r∈rs,r.length≤131072):scan (aX rs)=(rs,(aX rs).length):=by
 have:=scan_frames rs [] h
 rw[List.append_nil]at this
 rw[this,show scan ([]:List UInt8)=([],0) from rfl]
 simp
theorem jQ (l:List UInt8):∃ t,l=aX (scan l).1++t∧(aX (scan l).1).length=(scan l).2∧cP t=none∧∀ r∈(scan l).1,r.length≤131072:=by
 have key:∀ (k:Nat) (l:List UInt8),l.length≤k→∃ t,l=aX (scan l).1++t∧(aX (scan l).1).length=(scan l).2∧cP t=none∧∀ r∈(scan l).1,r.length≤131072:=by
  intro k
  induction k with
  |zero=>
   intro l hl
   have:l=[]:=List.eq_nil_of_length_eq_zero (by omega)
   subst this
   exact⟨[],rfl,rfl,rfl,fun r hr=>by simp[scan,scanK]at hr⟩
  |succ k ih=>
   intro l hl
   cases hr:cP l with
   |none=>
    rw[scan_none hr]
    exact⟨l,rfl,rfl,hr,fun r h=>by simp at h⟩
   |some r=>
    obtain⟨h1,h2,h3⟩:=kN hr
    obtain⟨t,t1,t2,t3,t4⟩:=ih (l.drop (8+r.length)) (by rw[List.length_drop];omega)
    rw[scan_some hr]
    refine⟨t,?_,?_,t3,?_⟩
    · rw[fD,List.append_assoc,←t1];exact h1
    · rw[fD,List.length_append,eF,t2]
    · intro x hx
      rcases List.mem_cons.1 hx with rfl|hx
      · exact h2
      · exact t4 x hx
 exact key l.length l (Nat.le_refl _)
end
section
open Go.RowKit Go.Lib
def lM (d:Nat):UInt8:=if d<10 then UInt8.ofNat (48+d)else UInt8.ofNat (87+d)
def hexF:Nat→Nat→List UInt8
 |0,_=>[]
 |k+1,n=>hexF k (n/16)++[lM (n%16)]
theorem hexF_len:∀ (k n:Nat),(hexF k n).length=k
 |0,_=>rfl
 |k+1,n=>by unfold hexF;rw[List.length_append,hexF_len k];rfl
theorem hexD_lt:∀ d,d<16→∀ e,e<16→d<e→lM d<lM e:=by decide+kernel
theorem hexD_ok:∀ d,d<16→okc (lM d)=true:=by decide+kernel
theorem hexF_ok:∀ (k n:Nat),(hexF k n).all okc=true
 |0,_=>rfl
 |k+1,n=>by
  unfold hexF
  rw[List.all_append,hexF_ok k]
  simp[hexD_ok _ (Nat.mod_lt n (by decide))]
theorem hexF_front:∀ (k n:Nat),hexF (k+1) n=lM (n/16 ^ k%16)::hexF k n
 |0,n=>by simp[hexF]
 |k+1,n=>by
  unfold hexF
  rw[hexF_front k (n/16)]
  rw[Nat.div_div_eq_div_mul,show 16*16 ^ k=16 ^ (k+1) by rw[Nat.pow_succ,Nat.mul_comm]]
  rfl
theorem hexF_get:∀ (k n j:Nat),j<k→(hexF k n)[j]?=some (lM (n/16 ^ (k - 1 - j)%16))
 |0,_,_,h=>by omega
 |k+1,n,0,_=>by rw[hexF_front];simp
 |k+1,n,j+1,h=>by
  rw[hexF_front,List.getElem?_cons_succ,hexF_get k n j (by omega)]
  congr 5
  omega
theorem cmp_pre:∀ (p a b:List UInt8),compareBytes (p++a) (p++b)=compareBytes a b
 |[],_,_=>rfl
 |c::p,a,b=>by
  have e:compareBytes (c::(p++a)) (c::(p++b))=compareBytes (p++a) (p++b):=by
   conv=>lhs;unfold compareBytes
   rw[if_neg (UInt8.lt_irrefl c),if_neg (UInt8.lt_irrefl c)]
  exact e.trans (cmp_pre p a b)
theorem cmp_snoc:∀ (a b:List UInt8) (x y:UInt8),a.length=b.length→compareBytes (a++[x]) (b++[y])=if compareBytes a b=0 then compareBytes [x] [y]else compareBytes a b
 |[],[],_,_,_=>rfl
 |[],_::_,_,_,h=>by simp at h
 |_::_,[],_,_,h=>by simp at h
 |c::a,d::b,x,y,h=>by
  have ih:=cmp_snoc a b x y (by simpa using h)
  show compareBytes (c::(a++[x])) (d::(b++[y]))=_
  unfold compareBytes
  by_cases h1:c<d
  · simp[h1]
  · by_cases h2:d<c
    · simp[h1,h2]
    · simp only[h1,h2,if_false]
      rw[ih]
      rfl
theorem cmp_one {x y:UInt8} (h:x<y):compareBytes [x] [y]= -1:=by simp[compareBytes,h]
theorem hexF_lt:∀ (k a b:Nat),a<16 ^ k→b<16 ^ k→a<b→compareBytes (hexF k a) (hexF k b)<0
 |0,a,b,ha,hb,h=>by simp at ha hb;omega
 |k+1,a,b,ha,hb,h=>by
  unfold hexF
  have e:(16:Nat) ^ (k+1)=16 ^ k*16:=Nat.pow_succ ..
  have ha':a/16<16 ^ k:=by omega
  have hb':b/16<16 ^ k:=by omega
  rw[cmp_snoc _ _ _ _ (by rw[hexF_len,hexF_len])]
  by_cases hq:a/16=b/16
  · rw[hq,cmp_self,if_pos rfl,cmp_one (hexD_lt _ (Nat.mod_lt _ (by decide)) _ (Nat.mod_lt _ (by decide)) (by omega))]
    decide
  · have:=hexF_lt k (a/16) (b/16) ha' hb' (by omega)
    rw[if_neg (by omega)]
    exact this
theorem hexF_inj {k a b:Nat} (ha:a<16 ^ k) (hb:b<16 ^ k) (h:hexF k a=hexF k b):a=b:=by
 rcases Nat.lt_trichotomy a b with h1|h1|h1
 · have:=hexF_lt k a b ha hb h1;rw[h,cmp_self]at this;omega
 · exact h1
 · have:=hexF_lt k b a hb ha h1;rw[h,cmp_self]at this;omega
abbrev tW:ByteArray:=⟨#[47,119]⟩
abbrev tMend:ByteArray:=⟨#[47,109,101,110,100]⟩
def hexB (n:Nat):ByteArray:=⟨(hexF 8 n).toArray⟩
def aV (dir:ByteArray) (n:Nat):ByteArray:=dir++tW++hexB n
def bR (dir:ByteArray):ByteArray:=dir++tMend
theorem ba_ext {a b:ByteArray} (h:a.data.toList=b.data.toList):a=b:=by
 cases a with|mk a=>cases b with|mk b=>
 have:a=b:=Array.toList_inj.1 h
 rw[this]
theorem cN (dir:ByteArray) (n:Nat):(aV dir n).data.toList=dir.data.toList++([47,119]++hexF 8 n):=by
 simp[aV,hexB,ByteArray.data_append]
theorem kQ (dir:ByteArray):(bR dir).data.toList=dir.data.toList++[47,109,101,110,100]:=by
 simp[bR,ByteArray.data_append]
theorem kC (dir:ByteArray):(dir++tW).data.toList=dir.data.toList++[47,119]:=by
 simp[ByteArray.data_append]
theorem segN_inj {dir:ByteArray} {a b:Nat} (ha:a<4294967296) (hb:b<4294967296) (h:aV dir a=aV dir b):a=b:=by
 have h1:=congrArg (fun s:ByteArray=>s.data.toList) h
 simp only[cN]at h1
 have h2:=List.append_cancel_left (List.append_cancel_left h1)
 exact hexF_inj (by omega) (by omega) h2
theorem segN_lt {dir:ByteArray} {a b:Nat} (hb:b<4294967296) (h:a<b):compareBytes (aV dir a).data.toList (aV dir b).data.toList<0:=by
 rw[cN,cN,cmp_pre,cmp_pre]
 exact hexF_lt 8 a b (by omega) (by omega) h
theorem segN_pre (dir:ByteArray) (n:Nat):(dir++tW).data.toList.isPrefixOf (aV dir n).data.toList=true:=by
 rw[kC,cN,List.isPrefixOf_iff_prefix]
 exact⟨hexF 8 n,by simp⟩
theorem mend_pre (dir:ByteArray):(dir++tW).data.toList.isPrefixOf (bR dir).data.toList=false:=by
 rw[kC,kQ,Bool.eq_false_iff]
 intro h
 obtain⟨t,ht⟩:=List.isPrefixOf_iff_prefix.1 h
 rw[List.append_assoc]at ht
 have:=List.append_cancel_left ht
 simp at this
theorem segN_mend (dir:ByteArray) (n:Nat):aV dir n≠bR dir:=fun h=>by
 have h1:=segN_pre dir n
 rw[h,mend_pre]at h1
 cases h1
theorem bC (s:ByteArray):s.size=s.data.toList.length:=by simp
theorem lL {s:ByteArray}:dG s=true↔s.size≠0∧s.size≤64∧s.data.toList.all okc=true:=by
 unfold dG
 simp only[ne_eq,Bool.and_eq_true,decide_eq_true_eq,and_assoc]
theorem iB {dir:ByteArray} (h:dG dir=true) (hs:dir.size≤40) (n:Nat):dG (aV dir n)=true:=by
 obtain⟨h1,h2,h3⟩:=lL.1 h
 have hl:(aV dir n).size=dir.size+10:=by
  rw[bC,cN,List.length_append,List.length_append,hexF_len,←bC];rfl
 refine lL.2 ⟨by omega,by omega,?_⟩
 rw[cN,List.all_append,List.all_append,h3,hexF_ok]
 rfl
end
end Go.Proofs.YtpfibkgmfapnjaaGreatDoor
