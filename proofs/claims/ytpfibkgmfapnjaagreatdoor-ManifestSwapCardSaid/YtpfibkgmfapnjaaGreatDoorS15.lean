/- The walk of raw.Sum: it computes sumF. -/
import Derived.Test.YtpfibkgmfapnjaaGreatDoorS13
import Derived.Test.YtpfibkgmfapnjaaGreatDoorS14
import Derived.Test.YtpfibkgmfapnjaaGreatDoorShS
import Derived.Test.YtpfibkgmfapnjaaGreatDoorS4
import Derived.Test.YtpfibkgmfapnjaaGreatDoorS7
import Derived.Test.YtpfibkgmfapnjaaGreatDoorS3
import Derived.Test.YtpfibkgmfapnjaaGreatDoorGaS
import Derived.Sort.OwnSorted
import Derived.Lib.OwnBridge
set_option linter.unusedSimpArgs false
set_option linter.unusedVariables false
namespace Go.Proofs.YtpfibkgmfapnjaaGreatDoor
section
open Go.RowKit
theorem xor_u32 (a b:Nat) (ha:a<4294967296) (hb:b<4294967296):bits .xor .u32 a b=((a ^^^ b:Nat):Int):=by
 have hx:=Rw.xor_lt ha hb
 have e:(BitVec.ofInt IntKind.u32.bits (a:Int) ^^^ BitVec.ofInt IntKind.u32.bits (b:Int)).toNat=a ^^^ b:=by
  rw[BitVec.toNat_xor,BitVec.ofInt_natCast,BitVec.ofInt_natCast,BitVec.toNat_ofNat,BitVec.toNat_ofNat,Nat.mod_eq_of_lt (a:=a) (by exact ha),Nat.mod_eq_of_lt (a:=b) (by exact hb)]
 show IntKind.u32.wrap ((BitVec.ofInt IntKind.u32.bits (a:Int) ^^^ BitVec.ofInt IntKind.u32.bits (b:Int)).toNat:Int)=_
 rw[e,IntKind.wrap_u32]
 omega
theorem and_one_u32 (a:Nat) (ha:a<4294967296):bits .and .u32 a 1=((a%2:Nat):Int):=by
 have h:=(bits_nat .u32 32 (by decide) (fun n h0 h1=>by rw[IntKind.wrap_u32];omega) a 1 (by omega) (by omega)).1
 rw[Nat.and_one_is_mod]at h
 exact h
theorem xor_step (a:Nat) (c:UInt8) (ha:a<4294967296):bits .xor .u32 a ((c.toNat:Int)%4294967296)=((a ^^^ c.toNat:Nat):Int):=by
 have hc:=c.toNat_lt
 rw[Int.emod_eq_of_lt (by omega) (by omega)]
 exact xor_u32 a c.toNat ha (by omega)
theorem odd_step (a:Nat) (ha:a<4294967296) (h:(bits .and .u32 a 1 == 1)=true):bits .xor .u32 ((a:Int)/2) 2197175160=((Rw.bit1 a:Nat):Int):=by
 rw[and_one_u32 a ha]at h
 have h1:a%2=1:=by have:=beq_iff_eq.1 h;omega
 have:=xor_u32 (a/2) 2197175160 (by omega) (by omega)
 unfold Rw.bit1
 rw[if_pos h1]
 rw[← this]
 rfl
theorem even_step (a:Nat) (ha:a<4294967296) (h:(bits .and .u32 a 1 == 1)=false):(a:Int)/2=((Rw.bit1 a:Nat):Int):=by
 rw[and_one_u32 a ha]at h
 have h1:¬ a%2=1:=by have:=beq_eq_false_iff_ne.1 h;omega
 unfold Rw.bit1
 rw[if_neg h1]
 rfl
set_option maxHeartbeats 400000 in
theorem sum_any (s:ByteArray) (w:World) (hs:s.size≤maxLen):
 Calls Tryz.prog 55 #[.string s] w fun e w'=>e= .returned (.int .i64 (Rw.sumF s.data.toList))∧w=w':=by
 unfold maxLen at hs
 go_enter Tryz.func55,Tryz.ntmps55
 go_wp2
 go_loop [3,8] (fun x i=>∃ (k:Nat),k≤s.size∧i= .int .i64 k∧x= .int .u32 (Rw.sumAt s k:Int)) (fun _ i=>s.size - (intOf i).toNat)
 case atStart=>exact⟨0,by omega,rfl,rfl⟩
 case round=>
  obtain⟨k,hk,rfl,rfl⟩:=hrel
  have hb:=Rw.sumAt_lt s k
  by_cases hlt:k<s.size
  · have hxs:=xor_step (Rw.sumAt s k) s[k] hb
    have Hn:=aB (Rw.sumAt_succ s k hlt)
    go_wp2
    clear hxs
    go_loop [3,17] (fun x i=>∃ (j:Nat),j≤8∧i= .int .i64 j∧x= .int .u32 (Rw.bitsK j (Rw.sumAt s k ^^^ s[k].toNat):Int)) (fun _ i=>8 - (intOf i).toNat)
    case atStart=>exact⟨0,by omega,rfl,rfl⟩
    case round=>
     obtain⟨j,hj,rfl,rfl⟩:=hrel
     have hb2:=Rw.bitsK_lt j (Rw.xor_lt hb (Rw.byte_lt s[k]))
     by_cases hlt2:j<8
     · go_wp2
       · have ho:(bits .and .u32 (Rw.bitsK j (Rw.sumAt s k ^^^ s[k].toNat):Int) 1 == 1)=true:=by assumption
         go_round
         case rel=>exact⟨j+1,by omega,by go_num,val_i (odd_step _ hb2 ho)⟩
         case measure=>simp[intOf];omega
       · have ho:(bits .and .u32 (Rw.bitsK j (Rw.sumAt s k ^^^ s[k].toNat):Int) 1 == 1)=false:=by assumption
         go_round
         case rel=>exact⟨j+1,by omega,by go_num,val_i (even_step _ hb2 ho)⟩
         case measure=>simp[intOf];omega
     · obtain rfl:j=8:=by omega
       go_wp2
       go_round
       case rel=>exact⟨k+1,by omega,by go_num,by rw[Hn.out]⟩
       case measure=>simp[intOf];omega
  · obtain rfl:k=s.size:=by omega
    have hx:=xor_u32 (Rw.sumAt s s.size) 4294967295 hb (by omega)
    have hx2:((Rw.sumAt s s.size ^^^ 4294967295:Nat):Int)=(Rw.sumF s.data.toList:Int):=by rw[Rw.sumAt_end];rfl
    have hlt:=Rw.sumF_lt s.data.toList
    have HX:bits .xor .u32 (Rw.sumAt s s.size:Int) 4294967295=(Rw.sumF s.data.toList:Int):=hx.trans hx2
    clear hx hx2
    go_wp2
    go_ret
    exact⟨rfl,rfl⟩
end
section
open Go.RowKit
theorem make_b (n:Nat) (w:World) (hn:n≤140737488355328):∃ arr:Array Value,arr.size=n∧
 (Instr.makeSlice 114 (.int .i64 (n:Int)) (.int .i64 (n:Int))).run Tryz.prog w= .ok (.slice (some ⟨w.heap.size,0,none⟩) n n) (w.alloc (.cells arr 5)):=by
 obtain⟨i,hi,hz,hsz,hby⟩:=info_parts info_u8
 have h:=run_make w 114 5 i (.int .u8 0) Tryz.underlying114 hi hz .i64 .i64 n n (by omega) (by omega) (by rw[hby];omega) (by omega)
 rw[hsz]at h
 simp only[Int.toNat_natCast,Nat.mul_one]at h
 exact⟨_,by simp[madeCells,Value.cells],h⟩
theorem div_pow (v i:Nat):(v:Int)/2 ^ (8*i)=((v/256 ^ i:Nat):Int):=by
 rw[Int.pow_mul];norm_cast
set_option maxRecDepth 100000 in
theorem put_ok (v n:Nat) (w:World) (h1:1≤n) (h7:n≤7) (hv:v<256 ^ n):
 Calls Tryz.prog 54 #[.int .i64 (v:Int),.int .i64 (n:Int)] w fun e w'=>e= .returned (.tuple #[.string ⟨(Rw.beF n v).toArray⟩,.int .i64 0])∧Below w.heap.size w w':=by
 have hv2:v<72057594037927936:=Nat.lt_of_lt_of_le hv (Nat.pow_le_pow_right (by decide) h7:256 ^ n≤256 ^ 7)
 have hq:((v:Int)/2 ^ (8*n) != 0)=false:=by rw[div_pow,Nat.div_eq_of_lt hv];rfl
 have hn1:decide ((n:Int)<1)=false:=by simp;omega
 have hn7:decide (7<(n:Int))=false:=by simp;omega
 have hv0:decide ((v:Int)<0)=false:=by simp
 obtain⟨arr,harr,hmk⟩:=make_b n w (by omega)
 have hb0:Buf (w.alloc (.cells arr 5)) w.heap.size n n []:=⟨_,_,heap_alloc_new _ _,harr,by simp,by rw[List.drop_eq_nil_of_le (by simp[harr])];rfl⟩
 have HV:=aB hv
 have HV2:=aB hv2
 have HB0:=aB hb0
 clear hv hv2 harr hb0
 go_enter Tryz.func54,Tryz.ntmps54
 go_wp2
 go_loopw [29] (fun y wr=>∃ i:Nat,i≤n∧y= .int .i64 (i:Int)∧Buf wr w.heap.size n (n - i) (Rw.beF i v)∧Below w.heap.size w wr) (fun y _=>n - (intOf y).toNat)
 case atStart=>exact⟨0,by omega,rfl,HB0.out,(Below.refl _ _).alloc (Nat.le_refl _) _⟩
 case round=>
  obtain⟨i,hi,rfl,hbuf,hbel⟩:=hrel
  by_cases hlt:i<n
  · have hfz:=hbuf.free (n - 1 - i)
    obtain⟨cv,hcv⟩:=hbuf.some_cell (n - 1 - i) (by omega)
    have hc:(v:Int)/2 ^ (8*i)%256=((UInt8.ofNat (v/256 ^ i)).toNat:Int):=by rw[div_pow];simp
    obtain⟨c,Hc⟩:∃ c:UInt8,Hid (c=UInt8.ofNat (v/256 ^ i)):=⟨_,rfl⟩
    rw[← Hc.out]at hc
    have hbuf1:=hbuf.step c (i:=n - 1 - i) (by omega)
    have hbel1:=hbel.setCell (p:=⟨w.heap.size,n - 1 - i,none⟩) (Nat.le_refl _) (.int .u8 (c.toNat:Int))
    go_wp2
    go_roundw
    case rel=>
     refine⟨i+1,by omega,by go_num,?_,hbel1⟩
     rw[Hc.out]at hbuf1 ⊢
     rw[show n - (i+1)=n - 1 - i from by omega]
     exact hbuf1
    case measure=>simp[intOf];omega
  · obtain rfl:i=n:=by omega
    have hb2:Buf wr w.heap.size i 0 (Rw.beF i v):=by rw[Nat.sub_self]at hbuf;exact hbuf
    have hs:=hb2.str i (Rw.beF_len i v).symm
    clear hbuf hb2
    go_wp2
    go_ret2
    exact⟨rfl,hbel⟩
def putAns (v n:Int):Value:=if Rw.putOk v n then .tuple #[.string ⟨(Rw.beF n.toNat v.toNat).toArray⟩,.int .i64 0]else .tuple #[.string ⟨#[]⟩,.int .i64 1]
end
section
open Go.RowKit
def FrB (w:World) (B N:Nat) (l:List UInt8):Prop:=
 l.length≤N∧(∀ j (h:j<l.length),w.cell? ⟨B,j,none⟩=some (.int .u8 (l[j].toNat:Int)))∧(∀ j,j<N→∃ v,w.cell? ⟨B,j,none⟩=some v)∧∀ j,w.frozen? ⟨B,j,none⟩=false
theorem FrB.start (w:World) (arr:Array Value) (t:TypeId):FrB (w.alloc (.cells arr t)) w.heap.size arr.size []:=
 ⟨by simp,fun j h=>by simp at h,fun j hj=>⟨arr[j],by simp[go_sem,hj]⟩,fun j=>by simp[go_sem]⟩
theorem FrB.add {w:World} {B N:Nat} {l:List UInt8} (h:FrB w B N l) (c:UInt8) (hl:l.length<N):FrB (w.setCell ⟨B,l.length,none⟩ (.int .u8 (c.toNat:Int))) B N (l++[c]):=by
 obtain⟨h1,h2,h3,h4⟩:=h
 refine⟨by simp;omega,fun j hj=>?_,fun j hj=>?_,fun j=>by rw[World.frozen?_setCell];exact h4 j⟩
 · rw[List.length_append,List.length_singleton]at hj
   rcases Nat.lt_or_ge j l.length with hlt|hge
   · rw[World.cell?_setCell_other _ _ _ _ (by intro e;injection e with _ e2;omega),List.getElem_append_left hlt]
     exact h2 j hlt
   · obtain rfl:j=l.length:=by omega
     obtain⟨v,hv⟩:=h3 l.length hl
     rw[World.cell?_setCell_same _ _ _ hv,List.getElem_append_right (Nat.le_refl _)]
     simp
 · by_cases e:j=l.length
   · subst e
     obtain⟨v,hv⟩:=h3 l.length hl
     exact⟨_,World.cell?_setCell_same _ _ _ hv⟩
   · obtain⟨v,hv⟩:=h3 j hj
     exact⟨v,by rw[World.cell?_setCell_other _ _ _ _ (by intro e2;injection e2 with _ e3;omega)];exact hv⟩
theorem FrB.has {w:World} {B N:Nat} {l:List UInt8} (h:FrB w B N l):jL w B l:=fun j hj=>⟨h.2.1 j hj,h.2.2.2 j⟩
theorem digit_of (n i:Nat) (hn:n<4294967296):bits .and .i64 ((n:Int)/2 ^ (4*(7 - i))) 15=((n/16 ^ (7 - i)%16:Nat):Int):=by
 have h:((n:Int)/2 ^ (4*(7 - i)))=((n/16 ^ (7 - i):Nat):Int):=by
  rw[Int.pow_mul];norm_cast
 have h2:n/16 ^ (7 - i)≤n:=Nat.div_le_self _ _
 have h3:=(bits_nat .i64 63 (by decide) (fun m h0 h1=>by exact IntWalk.i64_in _ (by omega)) (n/16 ^ (7 - i)) 15 (by omega) (by omega)).1
 rw[h,show(15:Int)=((15:Nat):Int) from rfl,h3,show(15:Nat)=2 ^ 4 - 1 from rfl,Nat.and_two_pow_sub_one_eq_mod]
theorem dig_at:∀ (d:Nat) (h:d<(⟨#[48,49,50,51,52,53,54,55,56,57,97,98,99,100,101,102]⟩:ByteArray).size),(⟨#[48,49,50,51,52,53,54,55,56,57,97,98,99,100,101,102]⟩:ByteArray)[d]'h=lM d
 |0,_=>rfl
 |1,_=>rfl
 |2,_=>rfl
 |3,_=>rfl
 |4,_=>rfl
 |5,_=>rfl
 |6,_=>rfl
 |7,_=>rfl
 |8,_=>rfl
 |9,_=>rfl
 |10,_=>rfl
 |11,_=>rfl
 |12,_=>rfl
 |13,_=>rfl
 |14,_=>rfl
 |15,_=>rfl
 |n+16,h=>by
  have h2:n+16<16:=h
  omega
set_option maxRecDepth 100000 in
set_option maxHeartbeats 1000000 in
theorem w_hex (n:Nat) (hn:n<4294967296) (w:World):Calls Tryz.prog 246 #[.int .i64 (n:Int)] w fun e w'=>e= .returned (.string (hexB n))∧Below w.heap.size w w':=by
 obtain⟨arr,harr,hmk⟩:=make_b 8 w (by omega)
 have hmk:(Instr.makeSlice 114 (.int .i64 8) (.int .i64 8)).run Tryz.prog w= .ok (.slice (some ⟨w.heap.size,0,none⟩) 8 8) (w.alloc (.cells arr 5)):=hmk
 have hb0:FrB (w.alloc (.cells arr 5)) w.heap.size 8 []:=by
  have:=FrB.start w arr 5
  rw[harr]at this
  exact this
 have HB0:=aB hb0
 clear harr hb0
 go_enter Tryz.func246,Tryz.ntmps246
 go_wp2
 go_loopw [4,8] (fun _ y wr=>∃ i:Nat,i≤8∧y= .int .i64 (i:Int)∧FrB wr w.heap.size 8 ((hexF 8 n).take i)∧Below w.heap.size w wr) (fun _ y _=>8 - (intOf y).toNat)
 case atStart=>exact⟨0,by omega,rfl,HB0.out,(Below.refl _ _).alloc (Nat.le_refl _) _⟩
 case round=>
  obtain⟨i,hi,rfl,hbuf,hbel⟩:=hrel
  by_cases hlt:i<8
  · have hfz:=hbuf.2.2.2 i
    obtain⟨cv,hcv⟩:=hbuf.2.2.1 i hlt
    have hdg:=digit_of n i hn
    obtain⟨d,hd⟩:∃ d,d=n/16 ^ (7 - i)%16:=⟨_,rfl⟩
    have hd16:d<16:=by rw[hd];exact Nat.mod_lt _ (by decide)
    rw[← hd]at hdg
    have HD:=aB hd
    clear hd
    go_wp2
    go_roundw
    case rel=>
     refine⟨i+1,by omega,by go_num,?_,hbel.setCell (Nat.le_refl _) _⟩
     rw[dig_at]
     have hl:((hexF 8 n).take i).length=i:=by rw[List.length_take,hexF_len];omega
     have h2:=hbuf.add (lM d) (by omega)
     rw[hl]at h2
     have h3:(hexF 8 n).take (i+1)=(hexF 8 n).take i++[lM d]:=by
      rw[List.take_add_one,hexF_get 8 n i hlt,HD.out]
      rfl
     rw[h3]
     exact h2
    case measure=>simp[intOf];omega
  · obtain rfl:i=8:=by omega
    rw[List.take_of_length_le (by rw[hexF_len];omega)]at hbuf
    have hs:=hbuf.has.str 8 8 (hexF_len 8 n).symm
    have HBU:=aB hbuf
    clear hbuf
    go_wp2
    go_ret
    exact⟨rfl,hbel⟩
theorem hexB_size (n:Nat):(hexB n).size=8:=by rw[hexB];simp[ByteArray.size,hexF_len]
set_option maxRecDepth 100000 in
set_option maxHeartbeats 1000000 in
theorem w_name {lb:Nat} {dir:ByteArray} (hd40:dir.size≤40) (n:Nat) (hn:n<4294967296) {w:World} (h:w.cell? ⟨lb,1,none⟩=some (.string dir)):Calls Tryz.prog 158 #[.pointer (some ⟨lb,0,none⟩),.int .i64 (n:Int)] w fun e w'=>e= .returned (.string (aV dir n))∧Below w.heap.size w w':=by
 obtain⟨hx,hhx⟩:∃ hx,hexB n=hx:=⟨_,rfl⟩
 have h8:hx.size≤8:=by rw[← hhx,hexB_size];exact Nat.le_refl _
 have HX:=aB hhx
 have a1:¬ 9223372036854775807<dir.size+2:=by omega
 have a2:¬ 9223372036854775807<dir.size+2+hx.size:=by omega
 clear hhx
 go_enter Tryz.func158,Tryz.ntmps158
 go_wp2
 refine dQ (fun w'=>w'.cell? ⟨lb,1,none⟩=some (.string dir)) 8 9 h (fun hH=>?_)
 refine bU [[0],[1],[2],[3],[4],[5]] hH ?_
 refine bM (i:=6) rfl (fun K hK=>?_)
 go_simp
 go_at_call 246
 refine(w_hex n hn _).mono ?_
 rintro e w3 ⟨rfl,hb⟩
 rw[HX.out]
 have h3:=(hb.cell (p:=⟨lb,1,none⟩) (World.block_lt_of_cell? _ _ h)).trans h
 have HB:=aB hb
 clear hb
 refine bH hK h3 ?_
 clear hK K
 intro hH
 refine bU [[7]] hH ?_
 refine eU ?_
 clear hH
 go_wp2_with fail
 go_ret
 exact⟨by rw[← HX.out];rfl,(Below.refl _ _).drew.trans HB.out⟩
theorem hasP_app (a b:List UInt8):Lib.hasPrefix (a++b) a=true:=by unfold Lib.hasPrefix;simp
theorem trim_seg (dir:ByteArray) (n:Nat):Lib.trimPrefix (aV dir n).data.toList (dir++tW).data.toList=hexF 8 n:=by
 rw[cN,kC,←List.append_assoc]
 unfold Lib.trimPrefix
 rw[if_pos (by first|exact hasP_app _ _|(rw[List.isPrefixOf_iff_prefix];exact List.prefix_append _ _))]
 exact List.drop_left
theorem or_digit (v d:Nat) (hv:v<268435456) (hd:d<16):bits .or .i64 ((v:Int)*16) (d:Int)=((v*16+d:Nat):Int):=by
 have h:=(bits_nat .i64 63 (by decide) (fun n h0 h1=>by exact IntWalk.i64_in _ (by omega)) (v*16) d (by omega) (by omega)).2
 have hor:=Nat.two_pow_add_eq_or_of_lt (i:=4) (b:=d) (by omega) v
 rw[show 2 ^ 4*v=v*16 from by omega]at hor
 rw[show(v:Int)*16=((v*16:Nat):Int) from by omega,h,hor]
theorem dig_lt {d:Nat} (h:d<16):(d<10∧(lM d).toNat=48+d)∨(10≤d∧(lM d).toNat=87+d):=by
 unfold lM
 by_cases h1:d<10
 · rw[if_pos h1,UInt8.toNat_ofNat'];omega
 · rw[if_neg h1,UInt8.toNat_ofNat'];omega
set_option maxRecDepth 100000 in
set_option maxHeartbeats 1000000 in
theorem w_number {lb:Nat} {dir:ByteArray} (hd40:dir.size≤40) (n:Nat) (hn:n<4294967296) {w:World} (h:w.cell? ⟨lb,1,none⟩=some (.string dir)):Calls Tryz.prog 227 #[.pointer (some ⟨lb,0,none⟩),.string (aV dir n)] w fun e w'=>e= .returned (.int .i64 (n:Int))∧w'=w:=by
 have htr:=trim_seg dir n
 have htr2:=Tryz.strings_CutPrefix (aV dir n) (dir++tW) w
 rw[htr]at htr2
 obtain⟨s0,hs0⟩:∃ s0,s0=hexB n:=⟨_,rfl⟩
 have hs8:s0.size=8:=by rw[hs0,hexB_size]
 rw[show(⟨(hexF 8 n).toArray⟩:ByteArray)=s0 from hs0.symm]at htr2
 have hget:∀ i (hi:i<s0.size),s0[i]=lM (n/16 ^ (7 - i)%16):=by
  intro i hi
  subst hs0
  have h1:=hexF_get 8 n i (by omega)
  have h2:(hexB n)[i]'hi=(hexF 8 n)[i]'(by rw[hexF_len];omega):=by simp[hexB];rfl
  rw[h2]
  rw[List.getElem?_eq_getElem (by rw[hexF_len];omega)]at h1
  exact Option.some.inj h1
 have HG:=aB hget
 clear hget hs0 htr
 go_enter Tryz.func227,Tryz.ntmps227
 go_wp2_with (go_at_call 279;refine htr2.mono ?_;rintro e w2 ⟨rfl,rfl⟩)
 clear htr2
 have hs8i:(s0.size:Int)=8:=by omega
 go_loop [7,25] (fun x y=>∃ i:Nat,i≤8∧y= .int .i64 (i:Int)∧x= .int .i64 ((n/16 ^ (8 - i):Nat):Int)) (fun _ y=>8 - (intOf y).toNat)
 case atStart=>exact⟨0,by omega,rfl,by rw[Nat.div_eq_of_lt (by omega)];rfl⟩
 case round=>
  obtain⟨i,hi,rfl,rfl⟩:=hrel
  by_cases hlt:i<8
  · obtain⟨d,hd⟩:∃ d,n/16 ^ (7 - i)%16=d:=⟨_,rfl⟩
    have hd16:d<16:=by rw[← hd];exact Nat.mod_lt _ (by decide)
    have hg:=HG.out i (by omega)
    rw[hd]at hg
    obtain⟨v,hv⟩:∃ v,n/16 ^ (8 - i)=v:=⟨_,rfl⟩
    have hvl:v<268435456:=by
     rw[← hv]
     have h1:16 ^ 1≤16 ^ (8 - i):=Nat.pow_le_pow_right (by decide) (by omega)
     have h2:n/16 ^ (8 - i)≤n/16 ^ 1:=Nat.div_le_div_left h1 (by decide)
     omega
    rw[hv]
    have hnext:n/16 ^ (8 - (i+1))=v*16+d:=by
     rw[← hd,←hv,show 8 - i=(7 - i)+1 by omega,Nat.pow_succ,←Nat.div_div_eq_div_mul,show 8 - (i+1)=7 - i by omega]
     omega
    have HN:=aB hnext
    obtain⟨c,hc⟩:∃ c,lM d=c:=⟨_,rfl⟩
    have hdl:=dig_lt hd16
    rw[hc]at hg hdl
    clear hnext hd hv hc
    rcases hdl with⟨h1,h2⟩|⟨h1,h2⟩
    · have t1:(48:Int)≤(c.toNat:Int):=by omega
      have t2:(c.toNat:Int)≤57:=by omega
      go_wp2
      go_round
      case rel=>exact⟨i+1,by omega,by go_num,by rw[HN.out,show(48:Int)+(d:Int) - 48=(d:Int) by omega,or_digit v d hvl hd16]⟩
      case measure=>simp[intOf];omega
    · have t1:(48:Int)≤(c.toNat:Int):=by omega
      have t2:¬ (c.toNat:Int)≤57:=by omega
      have t3:(97:Int)≤(c.toNat:Int):=by omega
      have t4:(c.toNat:Int)≤102:=by omega
      go_wp2
      go_round
      case rel=>exact⟨i+1,by omega,by go_num,by rw[HN.out,show(87:Int)+(d:Int) - 97+10=(d:Int) by omega,or_digit v d hvl hd16]⟩
      case measure=>simp[intOf];omega
  · obtain rfl:i=8:=by omega
    go_wp2
    go_ret
    exact⟨by simp,rfl⟩
end
section
open Go.RowKit Go.Maps Go.Sort Go.Shelf
variable {F G:Nat→Prop} {w w':World} {db mb:Nat} {D D':Dk}
theorem compare_any (a b:ByteArray) (w:World):
 Calls Tryz.prog 67 #[.string a,.string b] w fun e w'=>e= .returned (.int .i64 (Lib.compareBytes a.data.toList b.data.toList))∧w=w':=by
 go_enter Tryz.func67,Tryz.ntmps67
 go_wp2_with (go_at_call 174;refine(Tryz.strings_Compare _ _ _).mono ?_;rintro e w' ⟨rfl,rfl⟩)
 go_ret
 exact⟨rfl,rfl⟩
def dR:Value→Option (DataW Unit×List MemPlace):=fun _=>some (.agg [],[])
def dL (m:Fm):List (Lit×DataW Unit):=m.map (fun p=>(Lit.string p.1.data.toList,DataW.agg []))
theorem map_owns {m:Fm} (h:aL kW cvF w mb m) (hn:∀ p∈m,p.1.size≤maxLen) (hl:m.length≤maxLen):w.ownsMap Tryz.prog 9 dR mb m.length (.map ((dL m).foldr DataW.insert [])):=by
 obtain⟨es,clock,hb,hs,he⟩:=h
 have hsz:es.size=m.length:=by
  have:=congrArg List.length he
  simpa[iQ]using this
 have hrd:∀ x∈es.toList,∃ s:ByteArray,x.key= .string s∧s.size≤maxLen:=fun x hx=>by
  have hm:(x.key,x.val)∈es.toList.map (fun x=>(x.key,x.val)):=List.mem_map.2 ⟨x,hx,rfl⟩
  rw[he]at hm
  obtain⟨p,hp,e⟩:=List.mem_map.1 hm
  simp only[Prod.mk.injEq]at e
  exact⟨p.1,e.1.symm,hn p hp⟩
 have hkey:∀ s:ByteArray,s.size≤maxLen→keyOf Tryz.prog 9 (.string s)=some (.string s.data.toList):=fun s hs=>by
  simp[keyOf,mapKey,Tryz.underlying9,hs]
 have hrd2:∀ (x:MapEntry) (s:ByteArray),x.key= .string s→s.size≤maxLen→WideElems.rd Tryz.prog 9 dR x=some (.string s.data.toList,.agg []):=fun x s hx hs=>by
  have:=WideElems.rd_mk (P:=Tryz.prog) (k:=9) (R:=dR) (key:=x.key) (val:=x.val) (born:=x.born) (by rw[hx];exact hkey s hs) (yv:=(DataW.agg [],[])) rfl
  exact this
 refine⟨es,clock,hb,⟨by rw[hsz];exact hl,hs,fun x hx=>?_⟩,by rw[hsz];exact Nat.le_refl _,?_⟩
 · obtain⟨s,h1,h2⟩:=hrd x hx
   exact⟨_,hrd2 x s h1 h2⟩
 · congr 2
   unfold dL
   have h5:es.toList.map (WideElems.rg Tryz.prog 9 dR)=(es.toList.map (fun x=>(x.key,x.val))).map (fun p=>(match p.1 with| .string s=>(Lit.string s.data.toList,DataW.agg [])|_=>(Lit.bool false,DataW.nil))):=by
    rw[List.map_map]
    refine List.map_congr_left (fun x hx=>?_)
    obtain⟨s,h1,h2⟩:=hrd x hx
    rw[WideElems.rg_of (hrd2 x s h1 h2)]
    simp[h1]
   rw[h5,he,List.map_map]
   rfl
theorem strKeys_dL (m:Fm):(strKeys (.map ((dL m).foldr DataW.insert [])):List (List UInt8)).Perm ((m.map (·.1)).map (·.data.toList)):=by
 have h:=(WideShapes.sorted_perm (dL m)).map (fun p=>strOf p.1)
 refine h.trans ?_
 unfold dL
 rw[List.map_map,List.map_map]
 exact .refl _
theorem keys_any (mb:Option Nat) (w:World):Calls Tryz.prog 66 #[.map mb] w fun e w'=>
 e= .returned (.func (.func 173) #[] #[.pointer (some ⟨w.heap.size,0,none⟩)])∧w'=w.alloc (.cells #[.map mb] 80):=
 (callsIn_wide (n:=5)).1 (AnyZ.keys_in Tryz.gl_keys Fence.wide 5 trivial rfl mb w)
theorem collect_any {m:Fm} {Bm:Nat} (h:aL kW cvF w mb m) (hn:∀ p∈m,p.1.size≤64) (hl:m.length≤20000) (hB:w.cell? ⟨Bm,0,none⟩=some (.map (some mb))):
 Calls Tryz.prog 171 #[.func (.func 173) #[] #[.pointer (some ⟨Bm,0,none⟩)]] w fun e w'=>
  ∃ (v:Value) (ss:List (List UInt8)),e= .returned v∧ss.Perm ((m.map (·.1)).map (·.data.toList))∧w'.ownsRow w.heap.size 9 1 v ss.length (ss.map encStr)∧(v= .slice none 0 0↔ss=[])∧Below w.heap.size w w':=by
 have hown:=map_owns h (fun p hp=>by have:=hn p hp;unfold maxLen;omega) (by unfold maxLen;omega)
 have hsz:Maps.size (DataW.map ((dL m).foldr DataW.insert []):DataW Unit)=m.length:=by
  show((dL m).foldr DataW.insert []).length=m.length
  rw[length_sorted];unfold dL;rw[List.length_map]
 have hseq:SeqGives Fence.wide 3 Tryz.prog 173 #[.pointer (some ⟨Bm,0,none⟩)] encStr (fun ss=>ss.Perm (strKeys (.map ((dL m).foldr DataW.insert []):DataW Unit))) (Maps.size (DataW.map ((dL m).foldr DataW.insert []):DataW Unit)) w:=
  AnyZ.keys_gives (ρ:=Tryz.gl_keys_ren) {Tryz.gl_keys with} Fence.wide _ trivial rfl (by omega) Bm mb _ _ _ (World.block_lt_of_cell? _ _ hB) hB hown
 have hc:=AnyZ.collect_in Tryz.gl_collect Fence.wide 5 trivial trivial rfl (by omega) 173 #[.pointer (some ⟨Bm,0,none⟩)] trivial (enters_of Tryz.func173 (by kernel_rfl) rfl) _ _ (by rw[hsz];unfold maxLen;omega) (by rw[hsz];omega) w hseq
 refine((callsIn_wide (n:=5)).1 hc).mono ?_
 rintro e w' ⟨v,ss,rfl,hp,hrow,hnil,hb⟩
 exact⟨v,ss,rfl,hp.trans (strKeys_dL m),hrow,hnil,hb⟩
def cmpL (x y:List UInt8):Int:=Lib.compareBytes x y
theorem lt_t (x y:List UInt8):ltOf cmpL x y=true↔Lib.compareBytes x y<0:=decide_eq_true_iff
theorem lt_f (x y:List UInt8):ltOf cmpL x y=false↔¬ Lib.compareBytes x y<0:=decide_eq_false_iff_not
theorem cmpL_swo:SWO (ltOf cmpL):=by
 refine⟨fun x=>?_,fun x y z h1 h2=>?_,fun x y z h1 h2=>?_⟩
 · rw[lt_f,cmp_self];omega
 · rw[lt_t]at h1 h2 ⊢
   exact(cmp_trans x y z (by omega) (by omega)).2 (.inl h1)
 · rw[lt_f]at h1 h2 ⊢
   have a1:=cmp_neg x y
   have a2:=cmp_neg y z
   have a3:=cmp_neg x z
   have:=(cmp_trans z y x (by omega) (by omega)).1
   omega
theorem encStr_of (s:ByteArray):encStr s.data.toList= .string s:=by
 show Value.string ⟨s.data.toList.toArray⟩=_
 rw[Lib.mk_data]
abbrev toB (l:List UInt8):ByteArray:=⟨l.toArray⟩
theorem tT_info:(Tryz.prog.info? 9).map (fun i=>(i.zero,i.size,i.bytes))=some (some (.string ByteArray.empty),1,16):=by kernel_rfl
theorem eStr:kJ Tryz.prog 68 9 1 16 (fun s:ByteArray=>[.string s]) where
 und:=Tryz.underlying68
 info:=by
  obtain⟨i0,hi0,hz0,hs0,hy0⟩:=info_parts tT_info
  exact⟨i0,_,hi0,hz0,hs0,hy0,rfl⟩
 pos:=by decide
 few:=by decide
 len _:=rfl
 one:=by
  intro x u hu
  rw[List.mem_singleton]at hu
  subst hu
  rfl
theorem ownStr {w:World} {B:Nat} {v:Value} {ts:List (List UInt8)} (h:w.ownsRow B 9 1 v ts.length (ts.map encStr)):bE eStr w B v (ts.map toB):=by
 show World.ownsRow _ _ _ _ _ _ _
 rw[List.length_map,←List.map_eq_flatMap,List.map_map]
 exact h
theorem ownStr' {w:World} {B:Nat} {v:Value} {l:List ByteArray} (h:bE eStr w B v l):w.ownsRow B 9 1 v l.length ((l.map (·.data.toList)).map encStr):=by
 have h2:w.ownsRow B 9 1 v l.length (l.flatMap (fun s:ByteArray=>[Value.string s])):=h
 rw[← List.map_eq_flatMap]at h2
 rw[List.map_map]
 have e:(encStr∘fun s:ByteArray=>s.data.toList)=Value.string:=by funext s;exact encStr_of s
 rw[e]
 exact h2
set_option maxRecDepth 100000 in
theorem sort_any {B g cap:Nat} {ss:List (List UInt8)} (h:w.ownsRow B 9 1 (.slice (some ⟨g,0,none⟩) ss.length cap) ss.length (ss.map encStr)) (hl:ss.length≤20000):
 Calls Tryz.prog 172 #[.slice (some ⟨g,0,none⟩) ss.length cap,.func (.func 67) #[] #[]] w fun e w'=>e= .returned (.tuple #[])∧
  ∃ ts:List (List UInt8),ts.Perm ss∧ts.map toB=fJ (ss.map toB)∧w'.ownsRow B 9 1 (.slice (some ⟨g,0,none⟩) ts.length cap) ts.length (ts.map encStr)∧w.grownBy w' (some g):=by
 obtain⟨h1,h2⟩:=h
 rcases h2 with⟨h2,_⟩|⟨g',cap',cur,hv,hg,hh,hn,hc,hcl,htk⟩
 · cases h2
 · injection hv with e1 e2 e3
   injection e1 with e1
   injection e1 with e1
   subst e1 e3
   have hlt:g<w.heap.size:=(Array.getElem?_eq_some_iff.1 hh).1
   have hH:Holds encStr w g 0 ss.toArray:=fun j hj=>by
    have hj':j<ss.length:=by simpa using hj
    refine⟨?_,by simp[World.frozen?,hh]⟩
    have e:(cur.toList.take (ss.length*1))[j]?=(ss.map encStr)[j]?:=by rw[htk]
    rw[List.getElem?_take,if_pos (by omega),Array.getElem?_toList,List.getElem?_map,List.getElem?_eq_getElem hj']at e
    simp only[World.cell?,hh,Nat.zero_add,Option.isSome_none,Bool.false_eq_true,if_false]
    rw[e]
    simp[getElem!_pos,hj']
   have hcmp:CmpReads Tryz.prog 67 #[] encStr cmpL g 0 ss.toArray.size w:=fun n os dk _ x y=>
    (compare_any (toB x) (toB y) _).mono fun e w' ⟨he,hw⟩=>⟨he,0,hw.symm⟩
   have hcon:=Any.slices_SortFunc Tryz.gl_sort encStr (fun _=>rfl) cmpL cmpL_swo 67 #[] g 0 cap ss.toArray w (enters_of Tryz.func67 (by kernel_rfl) rfl) hcmp.lays hH hlt (by simp;omega)
   refine hcon.mono ?_
   rintro e w' ⟨rfl,d',n,os,hp,hso,rfl⟩
   obtain⟨p1,_,p3⟩:=hp
   have p1':d'.toList.length=ss.length:=by simpa using p1
   have hperm:d'.toList.Perm ss:=by
    have e1:d'.extract 0 ss.toArray.size=d':=by rw[← p1];exact Array.extract_size
    have e2:ss.toArray.extract 0 ss.toArray.size=ss.toArray:=Array.extract_size
    rw[e1,e2]at p3
    simpa using p3
   refine⟨rfl,d'.toList,hperm,sortB_eq (hperm.map toB) ?_,?_,?_⟩
   · rw[List.pairwise_map,List.pairwise_iff_getElem]
     intro i j hi hj hij
     have hj2:j<ss.toArray.size:=by rw[← p1];simpa using hj
     have:=hso i j (Nat.zero_le _) hij hj2
     have hi3:i<d'.size:=by simpa using hi
     have hj3:j<d'.size:=by simpa using hj
     rw[lt_f,getElem!_pos d' i hi3,getElem!_pos d' j hj3]at this
     have a:=cmp_neg d'[j] d'[i]
     show decide (Lib.compareBytes d'[i] d'[j]≤0)=true
     rw[decide_eq_true_iff]
     omega
   · rw[p1']
     have:=ownsRow_sorted (n:=n) (os:=os) (ss:=ss) (ts:=d'.toList) p1' hg hh hn hc (by simpa using hcl)
     exact this
   · exact grownBy_sorted d'
end
end Go.Proofs.YtpfibkgmfapnjaaGreatDoor
