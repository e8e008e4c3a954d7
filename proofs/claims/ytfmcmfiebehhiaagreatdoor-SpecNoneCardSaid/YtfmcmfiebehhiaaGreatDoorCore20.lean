/- package codec: Encode. package codec: Encode, the walk. package codec: the reader. -/
import Derived.Test.YtfmcmfiebehhiaaGreatDoorCore19
import Derived.Deep.CutBlock
import Derived.Test.YtfmcmfiebehhiaaGreatDoorCoreS
import Derived.Shelf.Small.Wraps
set_option linter.all false
set_option linter.unusedVariables false
set_option linter.unusedSimpArgs false
set_option maxRecDepth 100000
set_option maxHeartbeats 8000000
namespace Go.Proofs.YtfmcmfiebehhiaaGreatDoor
open Go.Proofs.Tryz
open Go.RowKit
theorem forms_more:∀k:Nat,k<22→(formsL.getD k FI.none).digit<16∧(formsL.getD k FI.none).alu≤2:=by decide+kernel
theorem operands_regs{x:XI}(h:validM x=true):∃m n:Nat,m<16∧n<16∧(operandsM x (formM x.kind)).2.1=(m:Int)∧(operandsM x (formM x.kind)).2.2=(n:Int):=by
 obtain ⟨k,hk1,hk2,hk,hm⟩:=valid_may h
 obtain ⟨d,s,hd,hs,ed,es⟩:=hm.regs
 have z:∃m n:Nat,m<16∧n<16∧(0:Int)=(m:Int)∧(0:Int)=(n:Int):=⟨0,0,by decide,by decide,rfl,rfl⟩
 unfold operandsM
 rw [ed,es]
 split;·exact ⟨s,d,hs,hd,rfl,rfl⟩
 split;·exact ⟨d,s,hd,hs,rfl,rfl⟩
 split;·exact ⟨0,d,by decide,hd,rfl,rfl⟩
 split;·exact ⟨0,d,by decide,hd,rfl,rfl⟩
 split;·exact z
 split
 ·simp only
  by_cases e:(formM x.kind).behind=5
  ·exact ⟨d,s,hd,hs,by rw [if_pos e],by rw [if_pos e]⟩
  ·exact ⟨s,d,hs,hd,by rw [if_neg e],by rw [if_neg e]⟩
 ·exact z
theorem operands_len{x:XI}:(operandsM x (formM x.kind)).1.length≤10:=by
 unfold operandsM
 split;·simp [modrmM]
 split;·simp [modrmM]
 split;·simp [modrmM]
 split;·simp
 split;·simp only [bytesI,leBytes_length];split<;>omega
 split
 ·simp only [modrmM,bytesI,List.length_append,leBytes_length,List.length_cons,List.length_nil]
  have e:∀(p:Prop) [Decidable p],(if p then ([0x24]:List UInt8) else []).length≤1:=fun p _=>by split<;>simp
  have:=e ((if (formM x.kind).behind=5 then x.src else x.dst)%8=4)
  omega
 ·simp
theorem operands_any{x:XI}(h:validM x=true)(w):
  Calls prog 104 #[x.agg,(formM x.kind).agg] w fun e w'=>e= .returned (opsV (operandsM x (formM x.kind)))∧Fr No w w':=by
 obtain ⟨k,hk1,hk2,hk,hm⟩:=valid_may h
 obtain ⟨d,s,hd,hs,ed,es⟩:=hm.regs
 obtain ⟨r1,r2,_,_⟩:=valid_rest h
 have hf:formM x.kind=formsL.getD k FI.none:=by rw [hk];unfold formM;rw [Int.toNat_natCast]
 rw [hf] at r1 r2 ⊢
 obtain ⟨g1,g2⟩:=forms_more k hk2
 obtain ⟨hb,_⟩:=forms_behind k
 generalize formsL.getD k FI.none=f at*
 obtain ⟨kk,a,c,z,wd,sh,dd,ss,dp,rl,im⟩:=x
 obtain ⟨op,bh,dg,al,mm,fw,fn⟩:=f
 simp only at ed es r1 r2 g1 g2 hb
 subst ed es
 obtain rfl|rfl|rfl|rfl|rfl|rfl|rfl|rfl:bh=0∨bh=1∨bh=2∨bh=3∨bh=4∨bh=5∨bh=6∨bh=7:=by omega
 ·exact operands_0 kk a c z wd sh d s dp rl im op dg al mm fw fn hd hs w
 ·exact operands_1 kk a c z wd sh d s dp rl im op dg al mm fw fn hd hs w
 ·exact operands_2 kk a c z wd sh d s dp rl im op dg al mm fw fn hd hs w
 ·by_cases ha:al=0
  ·exact operands_3 kk a c z wd sh d s dp rl im op dg al mm fw fn hd hs ha g1 w
  ·have hg:∃n:Nat,a=n∧n<16:=by
    by_cases h1:al=1
    ·obtain ⟨n,h8,e⟩:=r1 h1;exact ⟨n,e,by omega⟩
    ·obtain ⟨n,h8,e⟩:=r2 (by omega);exact ⟨n,e,by omega⟩
   exact operands_3' kk a c z wd sh d s dp rl im op dg al mm fw fn hd hs ha hg w
 ·exact operands_4 kk a c z wd sh d s dp rl im op dg al mm fw fn hd hs w
 ·exact operands_5 kk a c z wd sh d s dp rl im op dg al mm fw fn hd hs w
 ·exact operands_6 kk a c z wd sh d s dp rl im op dg al mm fw fn hd hs w
 ·cases sh
  ·exact operands_7f kk a c z wd d s dp rl im op dg al mm fw fn hd hs w
  ·exact operands_7t kk a c z wd d s dp rl im op dg al mm fw fn hd hs w
theorem copcode_any{x:XI}(h:validM x=true)(hx:(Lit.int .i64 x.size).wf=true)(w)(hm:MachAt w):
  Calls prog 106 #[x.agg] w fun e w'=>e= .returned (.string (bA' (opcodeM x)))∧Fr No w w':=by
 obtain ⟨k,hk1,hk2,hk,hmx⟩:=valid_may h
 obtain ⟨r1,r2,_,r4⟩:=valid_rest h
 have hd:=hmx.dst
 have hf:formM x.kind=formsL.getD k FI.none:=by rw [hk];unfold formM;rw [Int.toNat_natCast]
 rw [hf] at r1 r4
 clear h hmx r2 hf
 obtain ⟨kk,a,c,z,wd,sh,d,s,dp,rl,im⟩:=x
 simp only at hk hd r1 r4 hx
 subst hk
 match k,hk1,hk2 with
 |1,_,_=>exact opcode_1 a c z wd sh d s dp rl im w hm
 |2,_,_=>exact opcode_2 a c z wd sh d s dp rl im w hm
 |3,_,_=>exact opcode_3 a c z wd sh d s dp rl im w hm (by omega)
 |4,_,_=>obtain ⟨n,h8,e⟩:=r1 rfl;exact opcode_4 a c z wd sh d s dp rl im w hm (by omega)
 |5,_,_=>exact opcode_5 a c z wd sh d s dp rl im w hm
 |6,_,_=>exact opcode_6 a c z wd sh d s dp rl im w hm
 |7,_,_=>exact opcode_7 a c z wd sh d s dp rl im w hm
 |8,_,_=>exact opcode_8 a c z wd sh d s dp rl im w hm
 |9,_,_=>exact opcode_9 a c z wd sh d s dp rl im w hm
 |10,_,_=>exact opcode_10 a c z wd sh d s dp rl im w hm
 |11,_,_=>exact opcode_11 a c z wd sh d s dp rl im w hm
 |12,_,_=>exact opcode_12 a c z wd sh d s dp rl im w hm
 |13,_,_=>exact opcode_13 a c z wd sh d s dp rl im w hm hx
 |14,_,_=>exact opcode_14 a c z wd sh d s dp rl im w hm hx
 |15,_,_=>exact opcode_15 a c z wd sh d s dp rl im w hm
 |16,_,_=>obtain ⟨n,h8,e⟩:=(r4 rfl (by decide) (by decide)).2 rfl;exact opcode_16 a c z wd sh d s dp rl im w hm (by omega)
 |17,_,_=>exact opcode_17 a c z wd sh d s dp rl im w hm (by omega)
 |18,_,_=>exact opcode_18 a c z wd sh d s dp rl im w hm (by omega)
 |19,_,_=>exact opcode_19 a c z wd sh d s dp rl im w hm
 |20,_,_=>exact opcode_20 a c z wd sh d s dp rl im w hm
 |21,_,_=>exact opcode_21 a c z wd sh d s dp rl im w hm
 |k+22,_,h=>omega
theorem ite_len{p}[Decidable p]{a b:List UInt8}{n}(ha:a.length≤n)(hb:b.length≤n):(if p then a else b).length≤n:=by split<;>assumption
theorem opcode_len(x:XI):(opcodeM x).length≤10:=by
 have h:∀k:Int,(formM k).op.length≤10:=fun k=>by
  unfold formM
  by_cases hk:k.toNat<22
  ·revert hk;generalize k.toNat=n;revert n;decide+kernel
  ·rw [List.getD_eq_getElem?_getD,List.getElem?_eq_none (by simp [formsL];omega)];decide
 have l:(loadsM x.size).length≤10:=ite_len (by simp) (ite_len (by simp) (ite_len (by simp) (by simp)))
 have s:(storesM x.size).length≤10:=ite_len (by simp) (ite_len (by simp) (by simp))
 unfold opcodeM
 exact ite_len (by simp) (ite_len l (ite_len s (ite_len (ite_len (by simp) (by simp)) (ite_len (ite_len (by simp) (by simp)) (ite_len (by simp) (ite_len (by simp) (ite_len (by simp) (h _))))))))
theorem rex_len(x a b):(rexM x a b).length≤10:=by
 unfold rexM
 exact ite_len (by simp) (by simp)
def encV(x:XI):Value:= .tuple #[.string (bA' ((encodeM x).getD [])), .int .i64 (if encodeM x=none then 2 else 0)]
theorem enc_not{x}(h:validM x=false):encV x= .tuple #[.string ⟨#[]⟩, .int .i64 2]:=by
 have e:encodeM x=none:=by unfold encodeM;rw [if_pos h]
 unfold encV
 rw [e]
 rfl
theorem enc_is{x:XI}(h:validM x=true):encV x= .tuple #[.string (bA' ((if x.kind=14∧x.size=2 then [0x66] else [])++rexM x (operandsM x (formM x.kind)).2.1 (operandsM x (formM x.kind)).2.2++opcodeM x++(operandsM x (formM x.kind)).1++bytesI x.imm (formM x.kind).imm)), .int .i64 0]:=by
 unfold encV
 rw [enc_open h]
 rfl
theorem encode_any(x:XI)(hx:(Lit.int .i64 x.size).wf=true)(w:World)(h:MachAt w):
  Calls prog 67 #[x.agg] w fun e w'=>e= .returned (encV x)∧Fr No w w':=by
 have HV:Hid (∀W,Fr No w W→Calls prog 69 #[x.agg] W fun e w'=>e= .returned (.bool (validM x))∧Fr No W w'):=fun W hW=>valid_any x hx W (h.fr hW)
 cases hv:validM x with
 |false=>
  rw [enc_not hv]
  rw [hv] at HV
  clear h hx hv
  obtain ⟨k,a,c,z,wd,sh,d,s,dp,rl,im⟩:=x
  simp only [XI.agg] at*
  go_enter func67,ntmps67
  go_wp2_with (go_at_call 69;refine (HV.out _ (fr_alloc w _)).mono ?_;rintro e w1 ⟨rfl,hf1⟩)
  go_ret2
  exact ⟨rfl,(fr_alloc w _).trans hf1⟩
 |true=>
  rw [hv] at HV
  rw [enc_is hv]
  have HO:Hid (∀W,Calls prog 104 #[x.agg,(formM x.kind).agg] W fun e w'=>e= .returned (opsV (operandsM x (formM x.kind)))∧Fr No W w'):=fun W=>operands_any hv W
  have HC:Hid (∀W,Fr No w W→Calls prog 106 #[x.agg] W fun e w'=>e= .returned (.string (bA' (opcodeM x)))∧Fr No W w'):=fun W hW=>copcode_any hv hx W (h.fr hW)
  obtain ⟨m,n,hm,hn,em,en⟩:=operands_regs hv
  have HR:Hid (∀W,Calls prog 105 #[x.agg, .int .i64 m, .int .i64 n] W fun e w'=>e= .returned (.string (bA' (rexM x m n)))∧Fr No W w'):=fun W=>rex_any x m n W hm hn
  obtain ⟨k,hk1,hk2,hk,_⟩:=valid_may hv
  have hf:formM x.kind=formsL.getD k FI.none:=by rw [hk];unfold formM;rw [Int.toNat_natCast]
  obtain ⟨f0,f1,f2,f3,f4,f5,f6,hg⟩:=h.form k hk2
  have hmm:(formsL.getD k FI.none).imm≤8:=by obtain ⟨_,h0|h0|h0|h0⟩:=forms_behind k<;>omega
  have l1:=opcode_len x
  have l2:=rex_len x m n
  have l3:(operandsM x (formM x.kind)).1.length≤10:=operands_len
  rw [em,en]
  generalize hO:operandsM x (formM x.kind)=o at*
  obtain ⟨S,o1,o2⟩:=o
  simp only at em en l3 ⊢
  subst em en
  have HB:Hid (∀W,Calls prog 23 #[.int .u64 (IntKind.u64.wrap x.imm), .int .i64 (formM x.kind).imm] W fun e w'=>e= .returned (.string (bA' (bytesI x.imm (formM x.kind).imm)))∧Fr No W w'):=fun W=>bytesI_any x.imm _ (by rw [hf];exact hmm) W
  have l4:(bytesI x.imm (formM x.kind).imm).length≤10:=by simp [bytesI];rw [hf];omega
  generalize opcodeM x=O at*
  generalize rexM x (m:Int) (n:Int)=R at*
  rw [hf] at*
  rw [Nat.mul_comm 7 k] at f0 f1 f2 f3 f4 f5 f6
  clear hO hf h hx hv
  generalize formsL.getD k FI.none=f at*
  generalize bytesI x.imm f.imm=B at*
  obtain ⟨kk,a,c,z,wd,sh,d,s,dp,rl,im⟩:=x
  obtain ⟨op,bh,dg,al,mm,fw,fn⟩:=f
  simp only at hk
  subst hk
  simp only [XI.agg,FI.agg] at*
  obtain ⟨P,hP⟩:∃P:List UInt8,P=(if (k:Int)=14∧z=2 then [0x66] else []):=⟨_,rfl⟩
  have l0:P.length≤10:=by rw [hP];exact ite_len (by simp) (by simp)
  rw [←hP]
  have A1:=addL P R (by omega) (by omega)
  have A2:=addL (P++R) O (by rw [List.length_append];omega) (by omega)
  have A3:=addL (P++R++O) S (by rw [List.length_append,List.length_append];omega) (by omega)
  have A4:=addL (P++R++O++S) B (by rw [List.length_append,List.length_append,List.length_append];omega) (by omega)
  have HP:=Lib.hid hP
  generalize P++R++O++S++B=T4 at*
  generalize P++R++O++S=T3 at*
  generalize P++R++O=T2 at*
  generalize P++R=T1 at*
  have HA:Hid (_∧_∧_∧_):=⟨A1,A2,A3,A4⟩
  clear hP l0 l1 l2 l3 l4 hmm A1 A2 A3 A4
  go_enter func67,ntmps67
  go_upto_region 3 with (go_at_call 69;refine (HV.out _ (fr_alloc w _)).mono ?_;rintro e w1 ⟨rfl,hf1⟩)
  have HF1:Hid (Fr No w w1):=(fr_alloc w _).trans hf1
  have HX1:Hid (CellsAt w1 w.heap.size 0 [Value.int .i64 k,Value.int .i64 a,Value.int .i64 c,Value.int .i64 z,Value.bool wd,Value.bool sh,Value.int .i64 d,Value.int .i64 s,Value.int .i32 dp,Value.int .i32 rl,Value.int .i64 im]):=hf1.cells (CellsAt.new w _ _) id
  have HE:w1.cell? ⟨w.heap.size,0,none⟩=some (Value.int .i64 k)∧w1.cell? ⟨w.heap.size,1,none⟩=some (Value.int .i64 a)∧w1.cell? ⟨w.heap.size,2,none⟩=some (Value.int .i64 c)∧w1.cell? ⟨w.heap.size,3,none⟩=some (Value.int .i64 z)∧w1.cell? ⟨w.heap.size,4,none⟩=some (Value.bool wd)∧w1.cell? ⟨w.heap.size,5,none⟩=some (Value.bool sh)∧w1.cell? ⟨w.heap.size,6,none⟩=some (Value.int .i64 d)∧w1.cell? ⟨w.heap.size,7,none⟩=some (Value.int .i64 s)∧w1.cell? ⟨w.heap.size,8,none⟩=some (Value.int .i32 dp)∧w1.cell? ⟨w.heap.size,9,none⟩=some (Value.int .i32 rl)∧w1.cell? ⟨w.heap.size,10,none⟩=some (Value.int .i64 im):=⟨HX1.out 0 _ rfl,HX1.out 1 _ rfl,HX1.out 2 _ rfl,HX1.out 3 _ rfl,HX1.out 4 _ rfl,HX1.out 5 _ rfl,HX1.out 6 _ rfl,HX1.out 7 _ rfl,HX1.out 8 _ rfl,HX1.out 9 _ rfl,HX1.out 10 _ rfl⟩
  obtain ⟨q0,q1,q2,q3,q4,q5,q6,q7,q8,q9,q10⟩:=HE
  have f0:=HF1.out.cell f0 id
  have f1:=HF1.out.cell f1 id
  have f2:=HF1.out.cell f2 id
  have f3:=HF1.out.cell f3 id
  have f4:=HF1.out.cell f4 id
  have f5:=HF1.out.cell f5 id
  have f6:=HF1.out.cell f6 id
  clear hf1 HV
  go_upto_region 4 with fail
  obtain ⟨W2,hW2⟩:∃W2,W2=w1.alloc (Obj.cells #[Value.string (bA' op),Value.int .i64 bh,Value.int .i64 dg,Value.int .i64 al,Value.int .i64 mm,Value.bool fw,Value.bool fn] 202):=⟨_,rfl⟩
  obtain ⟨B1,hB1⟩:∃B1,B1=w1.heap.size:=⟨_,rfl⟩
  have HF2:Hid (Fr No w1 W2):=by rw [hW2];exact fr_alloc w1 _
  have HCells:W2.cell? ⟨w.heap.size,0,none⟩=some (Value.int .i64 k)∧W2.cell? ⟨w.heap.size,1,none⟩=some (Value.int .i64 a)∧W2.cell? ⟨w.heap.size,2,none⟩=some (Value.int .i64 c)∧W2.cell? ⟨w.heap.size,3,none⟩=some (Value.int .i64 z)∧W2.cell? ⟨w.heap.size,4,none⟩=some (Value.bool wd)∧W2.cell? ⟨w.heap.size,5,none⟩=some (Value.bool sh)∧W2.cell? ⟨w.heap.size,6,none⟩=some (Value.int .i64 d)∧W2.cell? ⟨w.heap.size,7,none⟩=some (Value.int .i64 s)∧W2.cell? ⟨w.heap.size,8,none⟩=some (Value.int .i32 dp)∧W2.cell? ⟨w.heap.size,9,none⟩=some (Value.int .i32 rl)∧W2.cell? ⟨w.heap.size,10,none⟩=some (Value.int .i64 im)∧W2.cell? ⟨B1,0,none⟩=some (Value.string (bA' op))∧W2.cell? ⟨B1,1,none⟩=some (Value.int .i64 bh)∧W2.cell? ⟨B1,2,none⟩=some (Value.int .i64 dg)∧W2.cell? ⟨B1,3,none⟩=some (Value.int .i64 al)∧W2.cell? ⟨B1,4,none⟩=some (Value.int .i64 mm)∧W2.cell? ⟨B1,5,none⟩=some (Value.bool fw)∧W2.cell? ⟨B1,6,none⟩=some (Value.bool fn):=by
   have e2:CellsAt W2 B1 0 [Value.string (bA' op),Value.int .i64 bh,Value.int .i64 dg,Value.int .i64 al,Value.int .i64 mm,Value.bool fw,Value.bool fn]:=by rw [hW2,hB1];exact CellsAt.new _ _ _
   exact ⟨HF2.out.cell q0 id,HF2.out.cell q1 id,HF2.out.cell q2 id,HF2.out.cell q3 id,HF2.out.cell q4 id,HF2.out.cell q5 id,HF2.out.cell q6 id,HF2.out.cell q7 id,HF2.out.cell q8 id,HF2.out.cell q9 id,HF2.out.cell q10 id,e2 0 _ rfl,e2 1 _ rfl,e2 2 _ rfl,e2 3 _ rfl,e2 4 _ rfl,e2 5 _ rfl,e2 6 _ rfl⟩
  rw [←hW2,←hB1]
  have HF0:Hid (Fr No w W2):=HF1.out.trans HF2.out
  clear hW2 hB1 f0 f1 f2 f3 f4 f5 f6 HX1 q0 q1 q2 q3 q4 q5 q6 q7 q8 q9 q10
  have HK:Hid (∀W,Hid (Fr No W2 W)→(W.cell? ⟨w.heap.size,0,none⟩=some (Value.int .i64 k)∧W.cell? ⟨w.heap.size,1,none⟩=some (Value.int .i64 a)∧W.cell? ⟨w.heap.size,2,none⟩=some (Value.int .i64 c)∧W.cell? ⟨w.heap.size,3,none⟩=some (Value.int .i64 z)∧W.cell? ⟨w.heap.size,4,none⟩=some (Value.bool wd)∧W.cell? ⟨w.heap.size,5,none⟩=some (Value.bool sh)∧W.cell? ⟨w.heap.size,6,none⟩=some (Value.int .i64 d)∧W.cell? ⟨w.heap.size,7,none⟩=some (Value.int .i64 s)∧W.cell? ⟨w.heap.size,8,none⟩=some (Value.int .i32 dp)∧W.cell? ⟨w.heap.size,9,none⟩=some (Value.int .i32 rl)∧W.cell? ⟨w.heap.size,10,none⟩=some (Value.int .i64 im)∧W.cell? ⟨B1,0,none⟩=some (Value.string (bA' op))∧W.cell? ⟨B1,1,none⟩=some (Value.int .i64 bh)∧W.cell? ⟨B1,2,none⟩=some (Value.int .i64 dg)∧W.cell? ⟨B1,3,none⟩=some (Value.int .i64 al)∧W.cell? ⟨B1,4,none⟩=some (Value.int .i64 mm)∧W.cell? ⟨B1,5,none⟩=some (Value.bool fw)∧W.cell? ⟨B1,6,none⟩=some (Value.bool fn))∧Hid (Fr No W2 W)):=fun W hW=>by
   obtain ⟨q0,q1,q2,q3,q4,q5,q6,q7,q8,q9,q10,q11,q12,q13,q14,q15,q16,q17⟩:=HCells
   exact ⟨⟨hW.out.cell q0 id,hW.out.cell q1 id,hW.out.cell q2 id,hW.out.cell q3 id,hW.out.cell q4 id,hW.out.cell q5 id,hW.out.cell q6 id,hW.out.cell q7 id,hW.out.cell q8 id,hW.out.cell q9 id,hW.out.cell q10 id,hW.out.cell q11 id,hW.out.cell q12 id,hW.out.cell q13 id,hW.out.cell q14 id,hW.out.cell q15 id,hW.out.cell q16 id,hW.out.cell q17 id⟩,hW⟩
  obtain ⟨q0,q1,q2,q3,q4,q5,q6,q7,q8,q9,q10,q11,q12,q13,q14,q15,q16,q17⟩:=HCells
  simp only [opsV] at HO
  go_upto_region 5 with (go_at_call 104;(with_reducible refine (HO.out _).mono ?_);rintro e w3 ⟨rfl,hf3⟩)
  have HF3:Hid (Fr No W2 w3):=Lib.hid hf3
  clear hf3 q0 q1 q2 q3 q4 q5 q6 q7 q8 q9 q10 q11 q12 q13 q14 q15 q16 q17 HO
  obtain ⟨⟨q0,q1,q2,q3,q4,q5,q6,q7,q8,q9,q10,q11,q12,q13,q14,q15,q16,q17⟩,_⟩:=HK.out _ HF3
  obtain ⟨b14,hb14⟩:∃b,((k:Int)==14)=b:=⟨_,rfl⟩
  obtain ⟨b2,hb2⟩:∃b,(z==2)=b:=⟨_,rfl⟩
  obtain ⟨bb,hbb⟩:∃b,(b14&&b2)=b:=⟨_,rfl⟩
  have HPP:Hid (P=if bb=true then [0x66] else []):=by
   have g:(((k:Int)==14)&&(z==2))=true↔((k:Int)=14∧z=2):=by rw [Bool.and_eq_true,beq_iff_eq,beq_iff_eq]
   rw [HP.out,←hbb,←hb14,←hb2]
   by_cases e:((k:Int)=14∧z=2)
   ·rw [if_pos e,if_pos (g.2 e)];exact Lib.hid rfl
   ·rw [if_neg e,if_neg (fun h=>e (g.1 h))];exact Lib.hid rfl
  clear HP
  go_upto_region 6 with fail
  go_cut [30] from 23 to 29 (fun s wx=>s= .bool bb∧Hid (Fr No W2 wx))
  case first=>
   subst hbb
   cases b14<;>cases b2
   ·go_wp2_with fail
    go_meet
    exact ⟨rfl,HF3⟩
   ·go_wp2_with fail
    go_meet
    exact ⟨rfl,HF3⟩
   ·go_wp2_with fail
    go_meet
    exact ⟨rfl,HF3⟩
   ·go_wp2_with fail
    go_meet
    exact ⟨rfl,HF3⟩
  case rest=>
  obtain ⟨rfl,HF3⟩:=hcut
  clear hbb
  go_upto_if 30 with fail
  go_cut [8] (fun s wx=>s= .string (bA' P)∧Hid (Fr No W2 wx))
  case first=>
   cases bb
   ·go_wp2_with fail
    go_meet
    exact ⟨by rw [HPP.out];rfl,HF3⟩
   ·go_wp2_with fail
    go_meet
    exact ⟨by rw [HPP.out];rfl,HF3⟩
  case rest=>
   obtain ⟨rfl,HFc⟩:=hcut
   clear HPP hb14 hb2
   obtain ⟨A1,A2,A3,A4⟩:=HA.out
   have HFX:Hid (Fr No W2 wc.drew):=Fr.drew HFc.out
   have H0:=HK.out _ HFX
   have HCs:Hid (∀W,Hid (Fr No W2 W)→_):=fun W hW=>HC.out W (HF0.out.trans hW.out)
   clear HC q0 q1 q2 q3 q4 q5 q6 q7 q8 q9 q10 q11 q12 q13 q14 q15 q16 q17
   go_upto_region 8 with fail
   go_region_held3 (fun W=>(W.cell? ⟨w.heap.size,0,none⟩=some (Value.int .i64 k)∧W.cell? ⟨w.heap.size,1,none⟩=some (Value.int .i64 a)∧W.cell? ⟨w.heap.size,2,none⟩=some (Value.int .i64 c)∧W.cell? ⟨w.heap.size,3,none⟩=some (Value.int .i64 z)∧W.cell? ⟨w.heap.size,4,none⟩=some (Value.bool wd)∧W.cell? ⟨w.heap.size,5,none⟩=some (Value.bool sh)∧W.cell? ⟨w.heap.size,6,none⟩=some (Value.int .i64 d)∧W.cell? ⟨w.heap.size,7,none⟩=some (Value.int .i64 s)∧W.cell? ⟨w.heap.size,8,none⟩=some (Value.int .i32 dp)∧W.cell? ⟨w.heap.size,9,none⟩=some (Value.int .i32 rl)∧W.cell? ⟨w.heap.size,10,none⟩=some (Value.int .i64 im)∧W.cell? ⟨B1,0,none⟩=some (Value.string (bA' op))∧W.cell? ⟨B1,1,none⟩=some (Value.int .i64 bh)∧W.cell? ⟨B1,2,none⟩=some (Value.int .i64 dg)∧W.cell? ⟨B1,3,none⟩=some (Value.int .i64 al)∧W.cell? ⟨B1,4,none⟩=some (Value.int .i64 mm)∧W.cell? ⟨B1,5,none⟩=some (Value.bool fw)∧W.cell? ⟨B1,6,none⟩=some (Value.bool fn))∧Hid (Fr No W2 W))
    (first|assumption|exact HK.out _ (by assumption))
    (first
     |(go_at_call 105;(with_reducible refine (HR.out _).mono ?_);rintro e w5 ⟨rfl,hf5⟩;have HF5:Hid (Fr No W2 w5):=Lib.hid (Fr.trans (Hid.out (by assumption:Hid (Fr No W2 _))) hf5);clear hf5)
     |(go_at_call 106;(with_reducible refine (HCs.out _ (by assumption)).mono ?_);rintro e w6 ⟨rfl,hf6⟩;have HF6:Hid (Fr No W2 w6):=Lib.hid (Fr.trans (Hid.out (by assumption:Hid (Fr No W2 _))) hf6);clear hf6)
     |(go_at_call 23;(with_reducible refine (HB.out _).mono ?_);rintro e w7 ⟨rfl,hf7⟩;have HF7:Hid (Fr No W2 w7):=Lib.hid (Fr.trans (Hid.out (by assumption:Hid (Fr No W2 _))) hf7);clear hf7))
   all_goals go_wp2_with fail
   all_goals go_ret2
   all_goals exact ⟨rfl,HF0.out.trans (Hid.out (by assumption))⟩
structure RdAt(w:World)(b:Nat)(s:List UInt8):Prop where
 cell:w.cell? ⟨b,0,none⟩=some (.string (bA' s))
 open_:w.frozen? ⟨b,0,none⟩=false
 len:s.length≤1000000
theorem RdAt.fr{T w w' b s}(h:RdAt w b s)(hf:Fr T w w')(hb:¬T b):RdAt w' b s:=
 ⟨hf.cell h.cell hb,by rw [hf.frozen h.cell hb];exact h.open_,h.len⟩
theorem extract_take(s:List UInt8)(m):(bA' s).extract 0 m=bA' (s.take m):=by
 apply ByteArray.ext
 simp [bA',ByteArray.data_extract]
theorem extract_drop(s:List UInt8)(m):(bA' s).extract m s.length=bA' (s.drop m):=by
 apply ByteArray.ext
 simp [bA',ByteArray.data_extract]
 rw [List.take_of_length_le (by simp)]
theorem rtake_any(b n:Nat)(s:List UInt8)(w:World)(h:RdAt w b s)(hn:n≤8):
  Calls prog 101 #[.pointer (some ⟨b,0,none⟩), .int .i64 n] w fun e w'=>e= .returned (.int .u64 (takeN s n))∧Hid (RdAt w' b (s.drop n))∧Hid (Fr (fun k=>k=b) w w'):=by
 obtain ⟨hc,ho,hl⟩:=h
 have HL:=Lib.hid hl
 have sz:(bA' s).size=s.length:=sizeJ s
 obtain ⟨m,hm⟩:∃m:Nat,m=min n s.length:=⟨_,rfl⟩
 have m1:min (n:Int) (s.length:Int)=(m:Int):=by omega
 have m2:(0:Int)≤(m:Int):=by omega
 have m3:(m:Int)≤(s.length:Int):=by omega
 have e1:leNum ((bA' (s.take m)).data.toList.take 8)=takeN s n:=by
  show leNum ((s.take m).take 8)=leNum (s.take n)
  rw [List.take_take,hm]
  by_cases hle:n≤s.length
  ·rw [show min 8 (min n s.length)=n by omega]
  ·rw [List.take_of_length_le (by omega),List.take_of_length_le (by omega)]
 have HN:Hid (∀W,Calls prog 73 #[.string ((bA' s).extract 0 m)] W fun e w'=>e= .returned (.int .u64 (takeN s n))∧W=w'):=fun W=>by
  rw [extract_take,←e1]
  exact num_any (bA' (s.take m)) W (by rw [sizeJ,List.length_take];unfold maxLen;omega)
 have e2:(bA' s).extract m s.length=bA' (s.drop n):=by
  rw [extract_drop,hm]
  by_cases hle:n≤s.length
  ·rw [Nat.min_eq_left hle]
  ·rw [List.drop_of_length_le (by omega),List.drop_of_length_le (by omega)]
 have E2:=Lib.hid e2
 have hlt:=World.block_lt_of_cell? w _ hc
 clear hm hl e1 e2
 go_enter func101,ntmps101
 go_wp2_with fail
 go_region_held3 (fun W=>W.cell? ⟨b,0,none⟩=some (.string (bA' s))∧W.frozen? ⟨b,0,none⟩=false)
  (first|assumption|go_keep)
  (first|(go_at_call 73;(with_reducible refine (HN.out _).mono ?_);rintro e w1 ⟨rfl,rfl⟩))
 go_wp2_with fail
 go_region
 go_wp2_with fail
 go_ret
 rw [E2.out]
 refine ⟨rfl,?_,?_⟩
 ·refine RdAt.fr (T:=No) (w:=w.setCell ⟨b,0,none⟩ (.string (bA' (s.drop n)))) ⟨World.cell?_setCell_same _ _ _ (by rw [hc]),by rw [World.frozen?_setCell];exact ho,by rw [List.length_drop];have:=HL.out;omega⟩ ((Fr.refl _ _).drew.drew) id
 ·exact ((Fr.refl (fun k=>k=b) w).setCell (p:=⟨b,0,none⟩) (.inr rfl) _).drew.drew
theorem sign_64(v:Nat)(hv:v<18446744073709551616):IntKind.u64.wrap (wrap64 (v:Int))=signI v 64%18446744073709551616:=by
 rw [IntKind.wrap_u64]
 unfold signI wrap64
 simp only [show (2:Nat)^64=18446744073709551616 from rfl,show (2:Nat)^(64-1)=9223372036854775808 from rfl,show (2:Int)^64=18446744073709551616 from rfl]
 split<;>omega
theorem sign_32(v:Nat):IntKind.u64.wrap (wrap64 (IntKind.u64.wrap ((v:Int)*2^32))/2^32)=signI v 32%18446744073709551616:=by
 rw [IntKind.wrap_u64,IntKind.wrap_u64]
 unfold signI wrap64
 simp only [show (2:Nat)^32=4294967296 from rfl,show (2:Nat)^(32-1)=2147483648 from rfl,show (2:Int)^32=4294967296 from rfl]
 split<;>omega
theorem sign_8(v:Nat):IntKind.u64.wrap (wrap64 (IntKind.u64.wrap ((v:Int)*2^56))/2^56)=signI v 8%18446744073709551616:=by
 rw [IntKind.wrap_u64,IntKind.wrap_u64]
 unfold signI wrap64
 simp only [show (2:Nat)^8=256 from rfl,show (2:Nat)^(8-1)=128 from rfl,show (2:Int)^8=256 from rfl,show (2:Int)^56=72057594037927936 from rfl]
 split<;>omega
theorem nsign_8(v:Nat)(w:World):Calls prog 139 #[.int .u64 v, .int .i64 8] w fun e w'=>e= .returned (.int .u64 (signI v 8%18446744073709551616))∧w=w':=by
 have HE:=Lib.hid (sign_8 v)
 have m8:min (8:Int) 64=8:=by decide
 go_enter func139,ntmps139
 go_wp2_with fail
 go_ret
 exact ⟨congrArg (fun z=>Ending.returned (Value.int .u64 z)) HE.out,rfl⟩
theorem nsign_32(v:Nat)(w:World):Calls prog 139 #[.int .u64 v, .int .i64 32] w fun e w'=>e= .returned (.int .u64 (signI v 32%18446744073709551616))∧w=w':=by
 have HE:=Lib.hid (sign_32 v)
 have m8:min (32:Int) 64=32:=by decide
 go_enter func139,ntmps139
 go_wp2_with fail
 go_ret
 exact ⟨congrArg (fun z=>Ending.returned (Value.int .u64 z)) HE.out,rfl⟩
theorem nsign_64(v:Nat)(hv:v<18446744073709551616)(w:World):Calls prog 139 #[.int .u64 v, .int .i64 64] w fun e w'=>e= .returned (.int .u64 (signI v 64%18446744073709551616))∧w=w':=by
 have HE:=Lib.hid (sign_64 v hv)
 have e1:IntKind.u64.wrap (v:Int)=v:=IntWalk.u64_in _ (by omega)
 clear hv
 go_enter func139,ntmps139
 go_wp2_with fail
 go_ret
 exact ⟨congrArg (fun z=>Ending.returned (Value.int .u64 z)) HE.out,rfl⟩
theorem nsign_any(v n:Nat)(hn:n=1∨n=4∨n=8)(hv:v<18446744073709551616)(w:World):Calls prog 139 #[.int .u64 v, .int .i64 (8*n)] w fun e w'=>e= .returned (.int .u64 (signI v (8*n)%18446744073709551616))∧w=w':=by
 rcases hn with rfl|rfl|rfl
 ·exact nsign_8 v w
 ·exact nsign_32 v w
 ·exact nsign_64 v hv w
theorem sign_in(v n)(hn:n=1∨n=4∨n=8):wrap64 (signI v (8*n)%18446744073709551616)=signI v (8*n):=by
 have h: -9223372036854775808≤signI v (8*n)∧signI v (8*n)≤9223372036854775807:=by
  rcases hn with rfl|rfl|rfl
  ·exact sign8'' v
  ·exact sign32' v
  ·exact sign64 v
 unfold wrap64
 omega
theorem rsigned_any(b n:Nat)(s:List UInt8)(w:World)(h:RdAt w b s)(hn:n=1∨n=4∨n=8):
  Calls prog 102 #[.pointer (some ⟨b,0,none⟩), .int .i64 n] w fun e w'=>e= .returned (.int .i64 (signI (takeN s n) (8*n)))∧Hid (RdAt w' b (s.drop n))∧Hid (Fr (fun k=>k=b) w w'):=by
 have h8:n≤8:=by omega
 have HT:=Lib.hid (rtake_any b n s w h h8)
 have HS:=Lib.hid (fun W=>nsign_any (takeN s n) n hn (take_lt s n h8) W)
 have HI:=Lib.hid (sign_in (takeN s n) n hn)
 have e8:IntKind.i64.wrap (8*(n:Int))=8*(n:Int):=IntWalk.i64_in _ (by omega)
 have e9:wrap64 (8*(n:Int))=8*(n:Int):=IntWalk.wrap64_in _ (by omega)
 clear h h8 hn
 go_enter func102,ntmps102
 go_wp2_with (first
  |(go_at_call 101;(with_reducible refine (HT.out).mono ?_);rintro e w1 ⟨rfl,HR1,HF1⟩)
  |(go_at_call 139;(with_reducible refine (HS.out _).mono ?_);rintro e w2 ⟨rfl,rfl⟩))
 go_ret
 exact ⟨congrArg (fun z=>Ending.returned (Value.int .i64 z)) HI.out,HR1.out,HF1.out⟩
theorem hasP_cons(s:List UInt8)(c):Lib.hasPrefix s [c]=(s.head? ==some c):=by
 cases s with
 |nil=>rfl
 |cons b t=>rw [Bool.eq_iff_iff];simp [Lib.hasPrefix];exact eq_comm
theorem trimP_cons(s:List UInt8)(c):Lib.trimPrefix s [c]=if (s.head? ==some c)=true then s.drop 1 else s:=by
 unfold Lib.trimPrefix
 rw [hasP_cons]
 rfl
theorem ccutp_any(s p w):Calls prog 138 #[.string (bA' s), .string (bA' p)] w fun e w'=>e= .returned (.tuple #[.string (bA' (Lib.trimPrefix s p)), .bool (Lib.hasPrefix s p)])∧w=w':=
 (Any.strings_CutPrefix Tryz.lays103 (bA' s) (bA' p) w).mono fun e w' ⟨he,hw⟩=>⟨he,hw.symm⟩
theorem chasp_any(s p w):Calls prog 68 #[.string (bA' s), .string (bA' p)] w fun e w'=>e= .returned (.bool (Lib.hasPrefix s p))∧w=w':=
 (Any.strings_HasPrefix Tryz.lays99 (bA' s) (bA' p) w).mono fun e w' ⟨he,hw⟩=>⟨he,hw.symm⟩
theorem rprefix_any(b c)(s:List UInt8)(w)(h:RdAt w b s):
  Calls prog 100 #[.pointer (some ⟨b,0,none⟩), .string (bA' [c])] w fun e w'=>e= .returned (.bool (s.head? ==some c))∧Hid (RdAt w' b (if (s.head? ==some c)=true then s.drop 1 else s))∧Hid (Fr (fun k=>k=b) w w'):=by
 have HC:=Lib.hid (fun W=>ccutp_any s [c] W)
 rw [hasP_cons,trimP_cons] at HC
 have HR:=Lib.hid h
 obtain ⟨hc,ho,hl⟩:=h
 have hlt:=World.block_lt_of_cell? w _ hc
 clear hl
 cases hq:(s.head? ==some c) with
 |false=>
  rw [hq] at HC
  go_enter func100,ntmps100
  go_wp2_with (go_at_call 138;(with_reducible refine (HC.out _).mono ?_);rintro e w1 ⟨rfl,rfl⟩)
  go_ret
  exact ⟨rfl,HR.out,Fr.refl _ _⟩
 |true=>
  rw [hq] at HC
  simp only [if_true] at HC
  go_enter func100,ntmps100
  go_wp2_with (go_at_call 138;(with_reducible refine (HC.out _).mono ?_);rintro e w1 ⟨rfl,rfl⟩)
  go_ret
  exact ⟨rfl,⟨World.cell?_setCell_same _ _ _ (by rw [hc]),by rw [World.frozen?_setCell];exact ho,by rw [List.length_tail];have:=HR.out.len;omega⟩,(Fr.refl (fun k=>k=b) w).setCell (p:=⟨b,0,none⟩) (.inr rfl) _⟩
theorem csize_any(bh op:Nat)(two half wide:Bool)(w:World):
  Calls prog 103 #[.int .i64 bh, .int .i64 op, .bool two, .bool half, .bool wide] w fun e w'=>e= .returned (.int .i64 (sizeOfM bh op two half wide))∧w=w':=by
 obtain ⟨q5,h5⟩:∃q,((bh:Int)==5)=q:=⟨_,rfl⟩
 obtain ⟨q6,h6⟩:∃q,((bh:Int)==6)=q:=⟨_,rfl⟩
 obtain ⟨p1,h1⟩:∃q,((op:Int)==182)=q:=⟨_,rfl⟩
 obtain ⟨p2,h2⟩:∃q,((op:Int)==136)=q:=⟨_,rfl⟩
 have e:sizeOfM bh op two half wide=if ((q5&&two&&p1)||(q6&&p2))=true then 1 else if ((q5&&two)||half)=true then 2 else if wide=true then 8 else 4:=by
  have e5:q5=true↔bh=5:=by rw [←h5,beq_iff_eq];omega
  have e6:q6=true↔bh=6:=by rw [←h6,beq_iff_eq];omega
  have f1:p1=true↔op=0xb6:=by rw [←h1,beq_iff_eq];omega
  have f2:p2=true↔op=0x88:=by rw [←h2,beq_iff_eq];omega
  unfold sizeOfM
  simp only [Bool.or_eq_true,Bool.and_eq_true,e5,e6,f1,f2,and_assoc]
 rw [e]
 clear e
 cases q5<;>cases q6<;>cases two<;>cases half<;>cases wide<;>cases p1<;>cases p2
 all_goals
  go_enter func103,ntmps103
  go_wp2_with fail
  go_ret
  exact ⟨rfl,rfl⟩
end Go.Proofs.YtfmcmfiebehhiaaGreatDoor

