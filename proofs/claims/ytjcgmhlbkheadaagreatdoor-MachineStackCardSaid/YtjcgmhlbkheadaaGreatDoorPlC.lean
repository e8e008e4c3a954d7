/- Code made of instructions, plain: what is fetched where, and what a step of a few kinds does with the native stack. -/
import Derived.Test.YtjcgmhlbkheadaaGreatDoorCore18
import Derived.Test.YtjcgmhlbkheadaaGreatDoorCore3
set_option linter.all false
set_option linter.unusedVariables false
set_option linter.unusedSimpArgs false
namespace Go.Proofs.YtjcgmhlbkheadaaGreatDoor
open Go.RowKit
def encB(x:XI):List UInt8:=(encodeM x).getD []
structure GoodI(x:XI):Prop where
 ok:x.ok
 some:∃t,encodeM x=some t∧0<t.length
def atC(xs:List XI)(i:Nat):Nat:=4194304+((xs.take i).flatMap encB).length
theorem atC_succ{xs:List XI}{i:Nat}{x:XI}(h:xs[i]? =some x):atC xs (i+1)=atC xs i+(encB x).length:=by
 unfold atC
 rw [List.take_add_one,h,List.flatMap_append]
 simp
 omega
theorem flat_at{xs:List XI}{i:Nat}{x:XI}(h:xs[i]? =some x):xs.flatMap encB=(xs.take i).flatMap encB++(encB x++(xs.drop (i+1)).flatMap encB):=by
 obtain ⟨hi,e⟩:=List.getElem?_eq_some_iff.1 h
 conv=>lhs;rw [←List.take_append_drop i xs]
 rw [List.flatMap_append,List.drop_eq_getElem_cons hi,List.flatMap_cons,e]
theorem fetch_at{xs:List XI}{i:Nat}{x:XI}(h:xs[i]? =some x)(hg:GoodI x)(hl:(xs.flatMap encB).length≤1000000):
  fetchM (xs.flatMap encB) (atC xs i)=some (x,atC xs (i+1)):=by
 obtain ⟨t,ht,h0⟩:=hg.some
 have eb:encB x=t:=by unfold encB;rw [ht];rfl
 have hf:=flat_at h
 have hs:=atC_succ h
 rw [eb] at hf hs
 have hlen:(xs.flatMap encB).length=((xs.take i).flatMap encB).length+(t.length+((xs.drop (i+1)).flatMap encB).length):=by rw [hf,List.length_append,List.length_append]
 generalize (xs.flatMap encB)=C at*
 have hp:((atC xs i:Nat):Int)-4194304=(((xs.take i).flatMap encB).length:Int):=by unfold atC;omega
 have hP:atC xs i=4194304+((xs.take i).flatMap encB).length:=rfl
 generalize (xs.take i).flatMap encB=P at*
 unfold fetchM
 have ho:((atC xs i:Int)-4194304)%18446744073709551616=(P.length:Int):=by rw [hp];omega
 simp only [ho]
 rw [if_neg (by omega),Int.toNat_natCast,hf,List.drop_left,decode_append hg.ok ht]
 simp only [Option.some.injEq,Prod.mk.injEq,true_and]
 rw [hs,hP]
 omega
def memN(L:List Nat):List Reg:= [ownR0 0,ownR1 0,ownR2,⟨262144,L.flatMap (leBytes 8),true⟩]
theorem memN_start:memL 0 0 [] [] []=memN (List.replicate 16 0):=by kernel_rfl
theorem nst_len(L:List Nat):(L.flatMap (leBytes 8)).length=8*L.length:=by
 induction L with
 |nil=>rfl
 |cons v L ih=>rw [List.flatMap_cons,List.length_append,leBytes_length,ih,List.length_cons];omega
theorem nst_set(L:List Nat)(k v:Nat)(h:k<L.length):(L.flatMap (leBytes 8)).take (8*k)++leBytes 8 v++(L.flatMap (leBytes 8)).drop (8*k+8)=(L.set k v).flatMap (leBytes 8):=by
 induction L generalizing k with
 |nil=>simp at h
 |cons u L ih=>
  have hu:(leBytes 8 u).length=8:=leBytes_length _ _
  cases k with
  |zero=>simp only [Nat.mul_zero,List.take_zero,List.nil_append,Nat.zero_add,List.flatMap_cons,List.set_cons_zero];rw [List.drop_append_of_le_length (by omega),List.drop_of_length_le (by omega),List.nil_append]
  |succ k=>
   have h':k<L.length:=by simpa using h
   rw [List.set_cons_succ,List.flatMap_cons,List.flatMap_cons,←ih k h']
   rw [show 8*(k+1)=(leBytes 8 u).length+8*k by rw [hu];omega,List.take_length_add_append,show (leBytes 8 u).length+8*k+8=(leBytes 8 u).length+(8*k+8) by omega,List.drop_length_add_append]
   simp only [List.append_assoc]
theorem nst_get(L:List Nat)(k:Nat)(h:k<L.length):((L.flatMap (leBytes 8)).drop (8*k)).take 8=leBytes 8 L[k]:=by
 induction L generalizing k with
 |nil=>simp at h
 |cons u L ih=>
  have hu:(leBytes 8 u).length=8:=leBytes_length _ _
  cases k with
  |zero=>simp only [Nat.mul_zero,List.drop_zero,List.flatMap_cons,List.getElem_cons_zero];rw [List.take_append_of_le_length (by omega),List.take_of_length_le (by omega)]
  |succ k=>
   have h':k<L.length:=by simpa using h
   rw [List.flatMap_cons,show 8*(k+1)=(leBytes 8 u).length+8*k by rw [hu];omega,List.drop_length_add_append,ih k h']
   rfl
theorem spotN(L:List Nat)(hL:L.length=16)(a:Int)(ha:262000≤a):spot (memN L) a 8=if 262144≤a∧a+8≤262272 then some 3 else none:=by
 have h0:(ownR0 0).has a 8=false:=by rw [Bool.eq_false_iff];intro h;rw [Reg.has_iff,ld0] at h;have:(ownR0 0).base=65536:=rfl;omega
 have h1:(ownR1 0).has a 8=false:=by rw [Bool.eq_false_iff];intro h;rw [Reg.has_iff,ld1] at h;have:(ownR1 0).base=65552:=rfl;omega
 have h2:ownR2.has a 8=false:=by rw [Bool.eq_false_iff];intro h;rw [Reg.has_iff,ld2] at h;have:ownR2.base=131072:=rfl;omega
 have h3:(Reg.has ⟨262144,L.flatMap (leBytes 8),true⟩ a 8=true)↔(262144≤a∧a+8≤262272):=by
  rw [Reg.has_iff,nst_len,hL]
  constructor<;>intro h<;>exact ⟨h.1,by have:=h.2;simp only at*;omega⟩
 unfold spot memN
 by_cases c:262144≤a∧a+8≤262272
 ·simp [List.findIdx?_cons,h0,h1,h2,h3.2 c,if_pos c]
 ·have h4:Reg.has ⟨262144,L.flatMap (leBytes 8),true⟩ a 8=false:=by rw [Bool.eq_false_iff];exact fun h=>c (h3.1 h)
  simp [List.findIdx?_cons,h0,h1,h2,h4,if_neg c]
theorem sizeOk8:sizeOk 8=true:=rfl
theorem mwriteN(L:List Nat)(hL:L.length=16)(k v:Nat)(hk:k<16)(a:Int)(ha:a=262144+8*k):mwrite (memN L) a 8 v=(memN (L.set k v),0):=by
 have hs:spot (memN L) a 8=some 3:=by rw [spotN L hL a (by omega),if_pos (by omega)]
 unfold mwrite
 rw [if_pos sizeOk8,hs]
 simp only [show (8:Int).toNat=8 from rfl]
 rw [if_pos (by rfl)]
 unfold mput
 rw [leBytes_length]
 simp only [Int.cast_ofNat_Int,hs]
 have e:(a-262144).toNat=8*k:=by omega
 show (([ownR0 0,ownR1 0,ownR2,Reg.put ⟨262144,L.flatMap (leBytes 8),true⟩ a (leBytes 8 v)]:List Reg),(0:Int))=_
 unfold Reg.put memN
 simp only [leBytes_length,e]
 rw [nst_set L k v (by omega)]
theorem mreadN(L:List Nat)(hL:L.length=16)(k:Nat)(hk:k<16)(a:Int)(ha:a=262144+8*k)(hv:L.getD k 0<18446744073709551616):mread (memN L) a 8=(L.getD k 0,0):=by
 have hs:spot (memN L) a 8=some 3:=by rw [spotN L hL a (by omega),if_pos (by omega)]
 have e:(a-262144).toNat=8*k:=by omega
 unfold mread mtext
 rw [if_pos sizeOk8,if_neg (by decide),if_neg (by decide),hs]
 show (leNum (Reg.cut ⟨262144,L.flatMap (leBytes 8),true⟩ a 8),(0:Int))=_
 unfold Reg.cut
 simp only [e,show (8:Int).toNat=8 from rfl]
 rw [nst_get L k (by omega),leNum_leBytes]
 rw [List.getD_eq_getElem?_getD,List.getElem?_eq_getElem (by omega),Option.getD_some] at hv ⊢
 rw [Nat.mod_eq_of_lt (by simpa using hv)]
def absX(d im:Int):XI:=⟨3,0,0,0,true,false,d,0,0,0,im⟩
def retX:XI:=⟨19,0,0,0,false,false,0,0,0,0,0⟩
def I64(v:Int):Prop:= -9223372036854775808≤v∧v≤9223372036854775807
theorem abs_ok{d:Int}(hd:d=1∨d=2∨d=3){im:Int}(h:I64 im):validM (absX d im)=true∧GoodI (absX d im)∧(encB (absX d im)).length≤10:=by
 have hv:validM (absX d im)=true:=by
  rcases hd with rfl|rfl|rfl<;>simp [validM,absX,formM,formsL,usedM,numberM]
 have he:∃t,encodeM (absX d im)=some t∧0<t.length∧t.length≤10:=by
  unfold encodeM
  rw [if_neg (by rw [hv];simp)]
  rcases hd with rfl|rfl|rfl<;>refine ⟨_,rfl,?_,?_⟩<;>simp [absX,formM,formsL,operandsM,opcodeM,rexM,bytesI]
 obtain ⟨t,h1,h2,h3⟩:=he
 have hok:(absX d im).ok:=by
  rcases hd with rfl|rfl|rfl<;>exact ⟨by simp [absX],by simp [absX],by simp [absX],by simp [absX],by simp [absX],by simp [absX],by simp [absX],by simp [absX],h⟩
 exact ⟨hv,⟨hok,t,h1,h2⟩,by unfold encB;rw [h1];exact h3⟩
def gdB(x:XI):Bool:=validM x&&(decide (-9223372036854775808≤x.kind∧x.kind≤9223372036854775807)&&decide (-9223372036854775808≤x.alu∧x.alu≤9223372036854775807)&&decide (-9223372036854775808≤x.cond∧x.cond≤9223372036854775807)&&decide (-9223372036854775808≤x.size∧x.size≤9223372036854775807)&&decide (-9223372036854775808≤x.dst∧x.dst≤9223372036854775807)&&decide (-9223372036854775808≤x.src∧x.src≤9223372036854775807)&&decide (-2147483648≤x.disp∧x.disp≤2147483647)&&decide (-2147483648≤x.rel∧x.rel≤2147483647)&&decide (-9223372036854775808≤x.imm∧x.imm≤9223372036854775807))&&((encodeM x).any fun t=>decide (0<t.length)&&decide (t.length≤10))
theorem gdB_is{x:XI}(h:gdB x=true):validM x=true∧GoodI x∧(encB x).length≤10:=by
 unfold gdB at h
 simp only [Bool.and_eq_true,decide_eq_true_eq,Option.any_eq_true] at h
 obtain ⟨⟨h0,⟨⟨⟨⟨⟨⟨⟨⟨h1,h2⟩,h3⟩,h4⟩,h5⟩,h6⟩,h7⟩,h8⟩,h9⟩⟩,t,ht,h10,h11⟩:=h
 exact ⟨h0,⟨⟨h1,h2,h3,h4,h5,h6,h7,h8,h9⟩,t,ht,h10⟩,by unfold encB;rw [ht];exact h11⟩
theorem step_abs{ds:List MapD}{W:HW}{d im:Int}{v next:Nat}{s:ST}(hv:validM (absX d im)=true)(hu:u64I im=v):stepM ds W (absX d im) next s=(.ok (ST.set {s with pc:=next} d.toNat v),W):=by
 have hl:u64I im<18446744073709551616:=by unfold u64I;omega
 unfold stepM
 rw [if_neg (by rw [hv];simp)]
 simp only [absX] at*
 simp only [Int.reduceEq,↓reduceIte,or_self,or_false,false_or,or_true,true_or]
 unfold execM
 rw [if_neg (by rw [hv];simp)]
 simp only
 simp only [Int.reduceEq,↓reduceIte,or_self,or_false,false_or,or_true,true_or]
 have e:doM 0xb0 true 0 (u64I im)=v:=by
  rw [hu] at hl ⊢
  show v%18446744073709551616=v
  omega
 rw [e]
theorem step_ret{ds:List MapD}{D:List Int}{S:List Tab}{L:List Nat}{next q:Nat}{s:ST}(hL:L.length=16)(h4:s.reg 4=262144+8*q)(hq:q<16)(hl:L.getD q 0<18446744073709551616):
  stepM ds ⟨D,S,memN L⟩ retX next s=(.ok {(ST.set {s with pc:=next} 4 (262144+8*(q+1))) with pc:=L.getD q 0},⟨D,S,memN L⟩):=by
 have hv:validM retX=true:=by decide+kernel
 have ht:touchM retX s=(262144+8*q,8):=by
  unfold touchM
  rw [if_neg (by rw [hv];simp)]
  simp only [retX]
  simp only [Int.reduceEq,↓reduceIte,or_self,or_false,false_or,or_true,true_or]
  rw [h4]
 have hf:farM (s.reg 4) 8=262144+8*(q+1):=by rw [h4];unfold farM;omega
 unfold stepM
 rw [if_neg (by rw [hv];simp)]
 simp only [ht]
 simp only [retX]
 simp only [Int.reduceEq,↓reduceIte,or_self,or_false,false_or,or_true,true_or]
 rw [mreadN L hL q hq _ (by omega) hl,hf]
 rfl
theorem begin_N(D:List Int)(S:List Tab)(L:List Nat)(hL:L.length=16):beginM ⟨D,S,memN L⟩=(.ok {ST.zero with r:=ST.zero.r.set 4 262264,pc:=4194304},⟨D,S,memN (L.set 15 10485760)⟩):=by
 unfold beginM
 rw [mwriteN L hL 15 _ (by decide) _ (by decide)]
 rfl
theorem reg_set{s:ST}(h:s.r.length=16){i:Nat}(hi:i<16)(v k:Nat):(s.set i v).reg k=if k=i then v else s.reg k:=by
 unfold ST.reg ST.set
 simp only [List.getD_eq_getElem?_getD]
 by_cases e:i=k
 ·subst e
  rw [if_pos rfl,List.getElem?_set_self (by omega)]
  rfl
 ·rw [if_neg (fun q=>e q.symm),List.getElem?_set_ne e]
theorem set_len(s:ST)(i v:Nat):(s.set i v).r.length=s.r.length:=by unfold ST.set;simp
theorem run_one{ds:List MapD}{xs:List XI}{i:Nat}{x:XI}{W V:HW}{s t:ST}{n k:Nat}(hx:xs[i]? =some x)(hg:GoodI x)(hl:(xs.flatMap encB).length≤1000000)(hp:s.pc=atC xs i)
  (hs:stepM ds W x (atC xs (i+1)) s=(.ok t,V)):runL ds (xs.flatMap encB) (n+1) k W s=runL ds (xs.flatMap encB) n (k+1) V t:=by
 have h1:s.pc≠10485760:=by
  have h2:=flat_at hx
  have h3:((xs.take i).flatMap encB).length≤(xs.flatMap encB).length:=by rw [h2,List.length_append];omega
  rw [hp];unfold atC;omega
 conv=>lhs;unfold runL
 rw [if_neg h1,hp,fetch_at hx hg hl]
 simp only [hs]
theorem halt_run{ds:List MapD}{C:List UInt8}{n k:Nat}{W:HW}{s:ST}(h:s.pc=10485760):runL ds C n k W s=(.ok (k,s),W):=by cases n<;>(unfold runL;rw [if_pos h])
def sg(v:Nat):Int:=IntKind.i64.wrap (v:Int)
theorem sg_ok{v:Nat}(h:v<18446744073709551616):I64 (sg v)∧u64I (sg v)=v:=by
 unfold sg I64 u64I
 rw [IntKind.wrap_i64]
 omega
theorem ret_good:gdB retX=true:=by decide+kernel
theorem flat_le(xs:List XI)(h:∀x∈xs,(encB x).length≤10):(xs.flatMap encB).length≤10*xs.length:=by
 induction xs with
 |nil=>simp
 |cons x xs ih=>
  rw [List.flatMap_cons,List.length_append,List.length_cons]
  have:=ih fun y hy=>h y (List.mem_cons_of_mem _ hy)
  have:=h x (by simp)
  omega
end Go.Proofs.YtjcgmhlbkheadaaGreatDoor
