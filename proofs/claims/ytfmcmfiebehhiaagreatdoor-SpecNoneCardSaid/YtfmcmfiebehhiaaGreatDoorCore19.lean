/- package codec: operands; Valid of whatever kind. (printed by mkoper.py) -/
import Derived.Test.YtfmcmfiebehhiaaGreatDoorCore18
set_option linter.all false
set_option linter.unusedVariables false
set_option linter.unusedSimpArgs false
set_option maxRecDepth 100000
set_option maxHeartbeats 4000000
namespace Go.Proofs.YtfmcmfiebehhiaaGreatDoor
open Go.Proofs.Tryz
open Go.RowKit
theorem valid_not(x:XI)(hk:x.kind<1∨22≤x.kind)(w):
  Calls prog 69 #[x.agg] w fun e w'=>e= .returned (.bool (validM x))∧Fr No w w':=by
 have hv:validM x=false:=by unfold validM;rw [if_pos hk]
 rw [hv]
 obtain ⟨k,a,c,z,wd,sh,d,s,dp,rl,im⟩:=x
 clear hv
 simp only [XI.agg] at*
 rcases hk with hk|hk
 ·go_enter func69,ntmps69
  go_wp2_with fail
  go_ret
  exact ⟨rfl,fr_alloc _ _⟩
 ·have h1:¬k<1:=by omega
  go_enter func69,ntmps69
  go_wp2_with fail
  go_ret
  exact ⟨rfl,fr_alloc _ _⟩
theorem XI.ok.wf{x:XI}(h:x.ok):(Lit.int .i64 x.size).wf=true:=by
 have:=wrap64_wf x.size
 rwa [IntWalk.wrap64_in _ h.size] at this
theorem valid_any(x:XI)(hx:(Lit.int .i64 x.size).wf=true)(w)(h:MachAt w):
  Calls prog 69 #[x.agg] w fun e w'=>e= .returned (.bool (validM x))∧Fr No w w':=by
 by_cases hk:x.kind<1∨22≤x.kind
 ·exact valid_not x hk w
 ·obtain ⟨n,hn⟩:∃n:Nat,x.kind=n:=⟨x.kind.toNat,by omega⟩
  obtain ⟨k,a,c,z,wd,sh,d,s,dp,rl,im⟩:=x
  obtain rfl:k=n:=hn
  exact valid_at n (by simp only at hk;omega) a c z wd sh d s dp rl im w h hx
theorem bytesI_any(v:Int)(n:Nat)(hn:n≤8)(w:World):
  Calls prog 23 #[.int .u64 (IntKind.u64.wrap v), .int .i64 n] w fun e w'=>e= .returned (.string (bA' (bytesI v n)))∧Fr No w w':=by
 have e:IntKind.u64.wrap v=(((v%18446744073709551616).toNat:Nat):Int):=by rw [IntKind.wrap_u64];omega
 rw [e]
 exact (bytes_any _ n w (by omega) hn).mono fun e w' ⟨he,hf⟩=>⟨he,Fr.of_below hf⟩
def opsV(o:List UInt8×Int×Int):Value:= .tuple #[.string (bA' o.1), .int .i64 o.2.1, .int .i64 o.2.2]
theorem cmodrm_any(mode mid fin:Nat)(w:World)(hmo:mode<4)(hm:mid<16)(hf:fin<16):
  Calls prog 140 #[.int .i64 mode, .int .i64 mid, .int .i64 fin] w fun e w'=>e= .returned (.string (bA' (modrmM mode mid fin)))∧Fr No w w':=by
 have h:=modrm_any mode mid fin w hmo hm hf
 rw [←modrm_eq hmo] at h
 exact h
theorem operands_0(k a c z:Int)(wd sh:Bool)(d s:Nat)(dp rl im:Int)(op:List UInt8)(dg al mm:Nat)(fw fn:Bool)(hd:d<16)(hs:s<16)(w:World):
  Calls prog 104 #[(XI.mk k a c z wd sh d s dp rl im).agg,(FI.mk op 0 dg al mm fw fn).agg] w fun e w'=>e= .returned (opsV (operandsM ⟨k,a,c,z,wd,sh,d,s,dp,rl,im⟩ ⟨op,0,dg,al,mm,fw,fn⟩))∧Fr No w w':=by
 have HQ:Hid (operandsM ⟨k,a,c,z,wd,sh,d,s,dp,rl,im⟩ ⟨op,0,dg,al,mm,fw,fn⟩=([],0,0)):=Lib.hid rfl
 rw [HQ.out]
 simp only [opsV]
 simp only [XI.agg,FI.agg]
 go_enter func104,ntmps104
 go_wp2_with fail
 go_ret3
 exact ⟨rfl,(fr_alloc w _).alloc _⟩
theorem operands_1(k a c z:Int)(wd sh:Bool)(d s:Nat)(dp rl im:Int)(op:List UInt8)(dg al mm:Nat)(fw fn:Bool)(hd:d<16)(hs:s<16)(w:World):
  Calls prog 104 #[(XI.mk k a c z wd sh d s dp rl im).agg,(FI.mk op 1 dg al mm fw fn).agg] w fun e w'=>e= .returned (opsV (operandsM ⟨k,a,c,z,wd,sh,d,s,dp,rl,im⟩ ⟨op,1,dg,al,mm,fw,fn⟩))∧Fr No w w':=by
 have HQ:Hid (operandsM ⟨k,a,c,z,wd,sh,d,s,dp,rl,im⟩ ⟨op,1,dg,al,mm,fw,fn⟩=(modrmM 3 s d,(s:Int),(d:Int))):=Lib.hid rfl
 rw [HQ.out]
 simp only [opsV]
 have HM:Hid (∀W,Calls prog 140 #[.int .i64 3, .int .i64 s, .int .i64 d] W fun e w'=>e= .returned (.string (bA' (modrmM 3 s d)))∧Fr No W w'):=fun W=>cmodrm_any 3 s d W (by decide) (by omega) (by omega)
 simp only [XI.agg,FI.agg]
 go_enter func104,ntmps104
 go_upto_region 4 with fail
 obtain ⟨W2,hW2⟩:∃W2,W2=((w.alloc (Obj.cells #[Value.int .i64 k,Value.int .i64 a,Value.int .i64 c,Value.int .i64 z,Value.bool wd,Value.bool sh,Value.int .i64 d,Value.int .i64 s,Value.int .i32 dp,Value.int .i32 rl,Value.int .i64 im] 48)).alloc (Obj.cells #[Value.string (bA' op),Value.int .i64 1,Value.int .i64 dg,Value.int .i64 al,Value.int .i64 mm,Value.bool fw,Value.bool fn] 202)):=⟨_,rfl⟩
 have HF2:Hid (Fr No w W2):=by rw [hW2];exact (fr_alloc w _).alloc _
 have HCells:W2.cell? ⟨w.heap.size,0,none⟩=some (Value.int .i64 k)∧W2.cell? ⟨w.heap.size,1,none⟩=some (Value.int .i64 a)∧W2.cell? ⟨w.heap.size,2,none⟩=some (Value.int .i64 c)∧W2.cell? ⟨w.heap.size,3,none⟩=some (Value.int .i64 z)∧W2.cell? ⟨w.heap.size,4,none⟩=some (Value.bool wd)∧W2.cell? ⟨w.heap.size,5,none⟩=some (Value.bool sh)∧W2.cell? ⟨w.heap.size,6,none⟩=some (Value.int .i64 d)∧W2.cell? ⟨w.heap.size,7,none⟩=some (Value.int .i64 s)∧W2.cell? ⟨w.heap.size,8,none⟩=some (Value.int .i32 dp)∧W2.cell? ⟨w.heap.size,9,none⟩=some (Value.int .i32 rl)∧W2.cell? ⟨w.heap.size,10,none⟩=some (Value.int .i64 im)∧W2.cell? ⟨w.heap.size+1,0,none⟩=some (Value.string (bA' op))∧W2.cell? ⟨w.heap.size+1,1,none⟩=some (Value.int .i64 1)∧W2.cell? ⟨w.heap.size+1,2,none⟩=some (Value.int .i64 dg)∧W2.cell? ⟨w.heap.size+1,3,none⟩=some (Value.int .i64 al)∧W2.cell? ⟨w.heap.size+1,4,none⟩=some (Value.int .i64 mm)∧W2.cell? ⟨w.heap.size+1,5,none⟩=some (Value.bool fw)∧W2.cell? ⟨w.heap.size+1,6,none⟩=some (Value.bool fn):=by
  have e1:CellsAt W2 w.heap.size 0 [Value.int .i64 k,Value.int .i64 a,Value.int .i64 c,Value.int .i64 z,Value.bool wd,Value.bool sh,Value.int .i64 d,Value.int .i64 s,Value.int .i32 dp,Value.int .i32 rl,Value.int .i64 im]:=by rw [hW2];exact ((Fr.refl No _).alloc _).cells (CellsAt.new w _ _) id
  have e2:CellsAt W2 (w.heap.size+1) 0 [Value.string (bA' op),Value.int .i64 1,Value.int .i64 dg,Value.int .i64 al,Value.int .i64 mm,Value.bool fw,Value.bool fn]:=by rw [hW2,←size_alloc];exact CellsAt.new _ _ _
  exact ⟨e1 0 _ rfl,e1 1 _ rfl,e1 2 _ rfl,e1 3 _ rfl,e1 4 _ rfl,e1 5 _ rfl,e1 6 _ rfl,e1 7 _ rfl,e1 8 _ rfl,e1 9 _ rfl,e1 10 _ rfl,e2 0 _ rfl,e2 1 _ rfl,e2 2 _ rfl,e2 3 _ rfl,e2 4 _ rfl,e2 5 _ rfl,e2 6 _ rfl⟩
 rw [←hW2]
 clear hW2
 have HK:Hid (∀W,Hid (Fr No W2 W)→(W.cell? ⟨w.heap.size,0,none⟩=some (Value.int .i64 k)∧W.cell? ⟨w.heap.size,1,none⟩=some (Value.int .i64 a)∧W.cell? ⟨w.heap.size,2,none⟩=some (Value.int .i64 c)∧W.cell? ⟨w.heap.size,3,none⟩=some (Value.int .i64 z)∧W.cell? ⟨w.heap.size,4,none⟩=some (Value.bool wd)∧W.cell? ⟨w.heap.size,5,none⟩=some (Value.bool sh)∧W.cell? ⟨w.heap.size,6,none⟩=some (Value.int .i64 d)∧W.cell? ⟨w.heap.size,7,none⟩=some (Value.int .i64 s)∧W.cell? ⟨w.heap.size,8,none⟩=some (Value.int .i32 dp)∧W.cell? ⟨w.heap.size,9,none⟩=some (Value.int .i32 rl)∧W.cell? ⟨w.heap.size,10,none⟩=some (Value.int .i64 im)∧W.cell? ⟨w.heap.size+1,0,none⟩=some (Value.string (bA' op))∧W.cell? ⟨w.heap.size+1,1,none⟩=some (Value.int .i64 1)∧W.cell? ⟨w.heap.size+1,2,none⟩=some (Value.int .i64 dg)∧W.cell? ⟨w.heap.size+1,3,none⟩=some (Value.int .i64 al)∧W.cell? ⟨w.heap.size+1,4,none⟩=some (Value.int .i64 mm)∧W.cell? ⟨w.heap.size+1,5,none⟩=some (Value.bool fw)∧W.cell? ⟨w.heap.size+1,6,none⟩=some (Value.bool fn))∧Hid (Fr No W2 W)):=fun W hW=>by
  obtain ⟨q0,q1,q2,q3,q4,q5,q6,q7,q8,q9,q10,q11,q12,q13,q14,q15,q16,q17⟩:=HCells
  exact ⟨⟨hW.out.cell q0 id,hW.out.cell q1 id,hW.out.cell q2 id,hW.out.cell q3 id,hW.out.cell q4 id,hW.out.cell q5 id,hW.out.cell q6 id,hW.out.cell q7 id,hW.out.cell q8 id,hW.out.cell q9 id,hW.out.cell q10 id,hW.out.cell q11 id,hW.out.cell q12 id,hW.out.cell q13 id,hW.out.cell q14 id,hW.out.cell q15 id,hW.out.cell q16 id,hW.out.cell q17 id⟩,hW⟩
 obtain ⟨q0,q1,q2,q3,q4,q5,q6,q7,q8,q9,q10,q11,q12,q13,q14,q15,q16,q17⟩:=HCells
 have HFX:Hid (Fr No W2 W2.drew):=(Fr.refl _ _).drew
 have H0:=HK.out _ HFX
 go_region_held3 (fun W=>(W.cell? ⟨w.heap.size,0,none⟩=some (Value.int .i64 k)∧W.cell? ⟨w.heap.size,1,none⟩=some (Value.int .i64 a)∧W.cell? ⟨w.heap.size,2,none⟩=some (Value.int .i64 c)∧W.cell? ⟨w.heap.size,3,none⟩=some (Value.int .i64 z)∧W.cell? ⟨w.heap.size,4,none⟩=some (Value.bool wd)∧W.cell? ⟨w.heap.size,5,none⟩=some (Value.bool sh)∧W.cell? ⟨w.heap.size,6,none⟩=some (Value.int .i64 d)∧W.cell? ⟨w.heap.size,7,none⟩=some (Value.int .i64 s)∧W.cell? ⟨w.heap.size,8,none⟩=some (Value.int .i32 dp)∧W.cell? ⟨w.heap.size,9,none⟩=some (Value.int .i32 rl)∧W.cell? ⟨w.heap.size,10,none⟩=some (Value.int .i64 im)∧W.cell? ⟨w.heap.size+1,0,none⟩=some (Value.string (bA' op))∧W.cell? ⟨w.heap.size+1,1,none⟩=some (Value.int .i64 1)∧W.cell? ⟨w.heap.size+1,2,none⟩=some (Value.int .i64 dg)∧W.cell? ⟨w.heap.size+1,3,none⟩=some (Value.int .i64 al)∧W.cell? ⟨w.heap.size+1,4,none⟩=some (Value.int .i64 mm)∧W.cell? ⟨w.heap.size+1,5,none⟩=some (Value.bool fw)∧W.cell? ⟨w.heap.size+1,6,none⟩=some (Value.bool fn))∧Hid (Fr No W2 W))
  (first|assumption|exact HK.out _ (by assumption))
  (first|(go_at_call 140;(with_reducible refine (HM.out _).mono ?_);rintro e w3 ⟨rfl,hf3⟩;have HF3:Hid (Fr No W2 w3):=Lib.hid (Fr.trans (Hid.out (by assumption:Hid (Fr No W2 _))) hf3);clear hf3))
 go_wp2_with fail
 go_ret3
 exact ⟨rfl,HF2.out.trans HF3.out⟩
theorem operands_2(k a c z:Int)(wd sh:Bool)(d s:Nat)(dp rl im:Int)(op:List UInt8)(dg al mm:Nat)(fw fn:Bool)(hd:d<16)(hs:s<16)(w:World):
  Calls prog 104 #[(XI.mk k a c z wd sh d s dp rl im).agg,(FI.mk op 2 dg al mm fw fn).agg] w fun e w'=>e= .returned (opsV (operandsM ⟨k,a,c,z,wd,sh,d,s,dp,rl,im⟩ ⟨op,2,dg,al,mm,fw,fn⟩))∧Fr No w w':=by
 have HQ:Hid (operandsM ⟨k,a,c,z,wd,sh,d,s,dp,rl,im⟩ ⟨op,2,dg,al,mm,fw,fn⟩=(modrmM 3 d s,(d:Int),(s:Int))):=Lib.hid rfl
 rw [HQ.out]
 simp only [opsV]
 have HM:Hid (∀W,Calls prog 140 #[.int .i64 3, .int .i64 d, .int .i64 s] W fun e w'=>e= .returned (.string (bA' (modrmM 3 d s)))∧Fr No W w'):=fun W=>cmodrm_any 3 d s W (by decide) (by omega) (by omega)
 simp only [XI.agg,FI.agg]
 go_enter func104,ntmps104
 go_upto_region 6 with fail
 obtain ⟨W2,hW2⟩:∃W2,W2=((w.alloc (Obj.cells #[Value.int .i64 k,Value.int .i64 a,Value.int .i64 c,Value.int .i64 z,Value.bool wd,Value.bool sh,Value.int .i64 d,Value.int .i64 s,Value.int .i32 dp,Value.int .i32 rl,Value.int .i64 im] 48)).alloc (Obj.cells #[Value.string (bA' op),Value.int .i64 2,Value.int .i64 dg,Value.int .i64 al,Value.int .i64 mm,Value.bool fw,Value.bool fn] 202)):=⟨_,rfl⟩
 have HF2:Hid (Fr No w W2):=by rw [hW2];exact (fr_alloc w _).alloc _
 have HCells:W2.cell? ⟨w.heap.size,0,none⟩=some (Value.int .i64 k)∧W2.cell? ⟨w.heap.size,1,none⟩=some (Value.int .i64 a)∧W2.cell? ⟨w.heap.size,2,none⟩=some (Value.int .i64 c)∧W2.cell? ⟨w.heap.size,3,none⟩=some (Value.int .i64 z)∧W2.cell? ⟨w.heap.size,4,none⟩=some (Value.bool wd)∧W2.cell? ⟨w.heap.size,5,none⟩=some (Value.bool sh)∧W2.cell? ⟨w.heap.size,6,none⟩=some (Value.int .i64 d)∧W2.cell? ⟨w.heap.size,7,none⟩=some (Value.int .i64 s)∧W2.cell? ⟨w.heap.size,8,none⟩=some (Value.int .i32 dp)∧W2.cell? ⟨w.heap.size,9,none⟩=some (Value.int .i32 rl)∧W2.cell? ⟨w.heap.size,10,none⟩=some (Value.int .i64 im)∧W2.cell? ⟨w.heap.size+1,0,none⟩=some (Value.string (bA' op))∧W2.cell? ⟨w.heap.size+1,1,none⟩=some (Value.int .i64 2)∧W2.cell? ⟨w.heap.size+1,2,none⟩=some (Value.int .i64 dg)∧W2.cell? ⟨w.heap.size+1,3,none⟩=some (Value.int .i64 al)∧W2.cell? ⟨w.heap.size+1,4,none⟩=some (Value.int .i64 mm)∧W2.cell? ⟨w.heap.size+1,5,none⟩=some (Value.bool fw)∧W2.cell? ⟨w.heap.size+1,6,none⟩=some (Value.bool fn):=by
  have e1:CellsAt W2 w.heap.size 0 [Value.int .i64 k,Value.int .i64 a,Value.int .i64 c,Value.int .i64 z,Value.bool wd,Value.bool sh,Value.int .i64 d,Value.int .i64 s,Value.int .i32 dp,Value.int .i32 rl,Value.int .i64 im]:=by rw [hW2];exact ((Fr.refl No _).alloc _).cells (CellsAt.new w _ _) id
  have e2:CellsAt W2 (w.heap.size+1) 0 [Value.string (bA' op),Value.int .i64 2,Value.int .i64 dg,Value.int .i64 al,Value.int .i64 mm,Value.bool fw,Value.bool fn]:=by rw [hW2,←size_alloc];exact CellsAt.new _ _ _
  exact ⟨e1 0 _ rfl,e1 1 _ rfl,e1 2 _ rfl,e1 3 _ rfl,e1 4 _ rfl,e1 5 _ rfl,e1 6 _ rfl,e1 7 _ rfl,e1 8 _ rfl,e1 9 _ rfl,e1 10 _ rfl,e2 0 _ rfl,e2 1 _ rfl,e2 2 _ rfl,e2 3 _ rfl,e2 4 _ rfl,e2 5 _ rfl,e2 6 _ rfl⟩
 rw [←hW2]
 clear hW2
 have HK:Hid (∀W,Hid (Fr No W2 W)→(W.cell? ⟨w.heap.size,0,none⟩=some (Value.int .i64 k)∧W.cell? ⟨w.heap.size,1,none⟩=some (Value.int .i64 a)∧W.cell? ⟨w.heap.size,2,none⟩=some (Value.int .i64 c)∧W.cell? ⟨w.heap.size,3,none⟩=some (Value.int .i64 z)∧W.cell? ⟨w.heap.size,4,none⟩=some (Value.bool wd)∧W.cell? ⟨w.heap.size,5,none⟩=some (Value.bool sh)∧W.cell? ⟨w.heap.size,6,none⟩=some (Value.int .i64 d)∧W.cell? ⟨w.heap.size,7,none⟩=some (Value.int .i64 s)∧W.cell? ⟨w.heap.size,8,none⟩=some (Value.int .i32 dp)∧W.cell? ⟨w.heap.size,9,none⟩=some (Value.int .i32 rl)∧W.cell? ⟨w.heap.size,10,none⟩=some (Value.int .i64 im)∧W.cell? ⟨w.heap.size+1,0,none⟩=some (Value.string (bA' op))∧W.cell? ⟨w.heap.size+1,1,none⟩=some (Value.int .i64 2)∧W.cell? ⟨w.heap.size+1,2,none⟩=some (Value.int .i64 dg)∧W.cell? ⟨w.heap.size+1,3,none⟩=some (Value.int .i64 al)∧W.cell? ⟨w.heap.size+1,4,none⟩=some (Value.int .i64 mm)∧W.cell? ⟨w.heap.size+1,5,none⟩=some (Value.bool fw)∧W.cell? ⟨w.heap.size+1,6,none⟩=some (Value.bool fn))∧Hid (Fr No W2 W)):=fun W hW=>by
  obtain ⟨q0,q1,q2,q3,q4,q5,q6,q7,q8,q9,q10,q11,q12,q13,q14,q15,q16,q17⟩:=HCells
  exact ⟨⟨hW.out.cell q0 id,hW.out.cell q1 id,hW.out.cell q2 id,hW.out.cell q3 id,hW.out.cell q4 id,hW.out.cell q5 id,hW.out.cell q6 id,hW.out.cell q7 id,hW.out.cell q8 id,hW.out.cell q9 id,hW.out.cell q10 id,hW.out.cell q11 id,hW.out.cell q12 id,hW.out.cell q13 id,hW.out.cell q14 id,hW.out.cell q15 id,hW.out.cell q16 id,hW.out.cell q17 id⟩,hW⟩
 obtain ⟨q0,q1,q2,q3,q4,q5,q6,q7,q8,q9,q10,q11,q12,q13,q14,q15,q16,q17⟩:=HCells
 have HFX:Hid (Fr No W2 W2.drew):=(Fr.refl _ _).drew
 have H0:=HK.out _ HFX
 go_region_held3 (fun W=>(W.cell? ⟨w.heap.size,0,none⟩=some (Value.int .i64 k)∧W.cell? ⟨w.heap.size,1,none⟩=some (Value.int .i64 a)∧W.cell? ⟨w.heap.size,2,none⟩=some (Value.int .i64 c)∧W.cell? ⟨w.heap.size,3,none⟩=some (Value.int .i64 z)∧W.cell? ⟨w.heap.size,4,none⟩=some (Value.bool wd)∧W.cell? ⟨w.heap.size,5,none⟩=some (Value.bool sh)∧W.cell? ⟨w.heap.size,6,none⟩=some (Value.int .i64 d)∧W.cell? ⟨w.heap.size,7,none⟩=some (Value.int .i64 s)∧W.cell? ⟨w.heap.size,8,none⟩=some (Value.int .i32 dp)∧W.cell? ⟨w.heap.size,9,none⟩=some (Value.int .i32 rl)∧W.cell? ⟨w.heap.size,10,none⟩=some (Value.int .i64 im)∧W.cell? ⟨w.heap.size+1,0,none⟩=some (Value.string (bA' op))∧W.cell? ⟨w.heap.size+1,1,none⟩=some (Value.int .i64 2)∧W.cell? ⟨w.heap.size+1,2,none⟩=some (Value.int .i64 dg)∧W.cell? ⟨w.heap.size+1,3,none⟩=some (Value.int .i64 al)∧W.cell? ⟨w.heap.size+1,4,none⟩=some (Value.int .i64 mm)∧W.cell? ⟨w.heap.size+1,5,none⟩=some (Value.bool fw)∧W.cell? ⟨w.heap.size+1,6,none⟩=some (Value.bool fn))∧Hid (Fr No W2 W))
  (first|assumption|exact HK.out _ (by assumption))
  (first|(go_at_call 140;(with_reducible refine (HM.out _).mono ?_);rintro e w3 ⟨rfl,hf3⟩;have HF3:Hid (Fr No W2 w3):=Lib.hid (Fr.trans (Hid.out (by assumption:Hid (Fr No W2 _))) hf3);clear hf3))
 go_wp2_with fail
 go_ret3
 exact ⟨rfl,HF2.out.trans HF3.out⟩
theorem operands_3(k a c z:Int)(wd sh:Bool)(d s:Nat)(dp rl im:Int)(op:List UInt8)(dg al mm:Nat)(fw fn:Bool)(hd:d<16)(hs:s<16)(ha:al=0)(hg:dg<16)(w:World):
  Calls prog 104 #[(XI.mk k a c z wd sh d s dp rl im).agg,(FI.mk op 3 dg al mm fw fn).agg] w fun e w'=>e= .returned (opsV (operandsM ⟨k,a,c,z,wd,sh,d,s,dp,rl,im⟩ ⟨op,3,dg,al,mm,fw,fn⟩))∧Fr No w w':=by
 subst ha
 have HQ:Hid (operandsM ⟨k,a,c,z,wd,sh,d,s,dp,rl,im⟩ ⟨op,3,dg,0,mm,fw,fn⟩=(modrmM 3 dg d,0,(d:Int))):=Lib.hid (rfl)
 rw [HQ.out]
 simp only [opsV]
 have HM:Hid (∀W,Calls prog 140 #[.int .i64 3, .int .i64 dg, .int .i64 d] W fun e w'=>e= .returned (.string (bA' (modrmM 3 dg d)))∧Fr No W w'):=fun W=>cmodrm_any 3 dg d W (by decide) (by omega) (by omega)
 simp only [XI.agg,FI.agg]
 go_enter func104,ntmps104
 go_upto_region 11 with fail
 obtain ⟨W2,hW2⟩:∃W2,W2=((w.alloc (Obj.cells #[Value.int .i64 k,Value.int .i64 a,Value.int .i64 c,Value.int .i64 z,Value.bool wd,Value.bool sh,Value.int .i64 d,Value.int .i64 s,Value.int .i32 dp,Value.int .i32 rl,Value.int .i64 im] 48)).alloc (Obj.cells #[Value.string (bA' op),Value.int .i64 3,Value.int .i64 dg,Value.int .i64 0,Value.int .i64 mm,Value.bool fw,Value.bool fn] 202)):=⟨_,rfl⟩
 have HF2:Hid (Fr No w W2):=by rw [hW2];exact (fr_alloc w _).alloc _
 have HCells:W2.cell? ⟨w.heap.size,0,none⟩=some (Value.int .i64 k)∧W2.cell? ⟨w.heap.size,1,none⟩=some (Value.int .i64 a)∧W2.cell? ⟨w.heap.size,2,none⟩=some (Value.int .i64 c)∧W2.cell? ⟨w.heap.size,3,none⟩=some (Value.int .i64 z)∧W2.cell? ⟨w.heap.size,4,none⟩=some (Value.bool wd)∧W2.cell? ⟨w.heap.size,5,none⟩=some (Value.bool sh)∧W2.cell? ⟨w.heap.size,6,none⟩=some (Value.int .i64 d)∧W2.cell? ⟨w.heap.size,7,none⟩=some (Value.int .i64 s)∧W2.cell? ⟨w.heap.size,8,none⟩=some (Value.int .i32 dp)∧W2.cell? ⟨w.heap.size,9,none⟩=some (Value.int .i32 rl)∧W2.cell? ⟨w.heap.size,10,none⟩=some (Value.int .i64 im)∧W2.cell? ⟨w.heap.size+1,0,none⟩=some (Value.string (bA' op))∧W2.cell? ⟨w.heap.size+1,1,none⟩=some (Value.int .i64 3)∧W2.cell? ⟨w.heap.size+1,2,none⟩=some (Value.int .i64 dg)∧W2.cell? ⟨w.heap.size+1,3,none⟩=some (Value.int .i64 0)∧W2.cell? ⟨w.heap.size+1,4,none⟩=some (Value.int .i64 mm)∧W2.cell? ⟨w.heap.size+1,5,none⟩=some (Value.bool fw)∧W2.cell? ⟨w.heap.size+1,6,none⟩=some (Value.bool fn):=by
  have e1:CellsAt W2 w.heap.size 0 [Value.int .i64 k,Value.int .i64 a,Value.int .i64 c,Value.int .i64 z,Value.bool wd,Value.bool sh,Value.int .i64 d,Value.int .i64 s,Value.int .i32 dp,Value.int .i32 rl,Value.int .i64 im]:=by rw [hW2];exact ((Fr.refl No _).alloc _).cells (CellsAt.new w _ _) id
  have e2:CellsAt W2 (w.heap.size+1) 0 [Value.string (bA' op),Value.int .i64 3,Value.int .i64 dg,Value.int .i64 0,Value.int .i64 mm,Value.bool fw,Value.bool fn]:=by rw [hW2,←size_alloc];exact CellsAt.new _ _ _
  exact ⟨e1 0 _ rfl,e1 1 _ rfl,e1 2 _ rfl,e1 3 _ rfl,e1 4 _ rfl,e1 5 _ rfl,e1 6 _ rfl,e1 7 _ rfl,e1 8 _ rfl,e1 9 _ rfl,e1 10 _ rfl,e2 0 _ rfl,e2 1 _ rfl,e2 2 _ rfl,e2 3 _ rfl,e2 4 _ rfl,e2 5 _ rfl,e2 6 _ rfl⟩
 rw [←hW2]
 clear hW2
 have HK:Hid (∀W,Hid (Fr No W2 W)→(W.cell? ⟨w.heap.size,0,none⟩=some (Value.int .i64 k)∧W.cell? ⟨w.heap.size,1,none⟩=some (Value.int .i64 a)∧W.cell? ⟨w.heap.size,2,none⟩=some (Value.int .i64 c)∧W.cell? ⟨w.heap.size,3,none⟩=some (Value.int .i64 z)∧W.cell? ⟨w.heap.size,4,none⟩=some (Value.bool wd)∧W.cell? ⟨w.heap.size,5,none⟩=some (Value.bool sh)∧W.cell? ⟨w.heap.size,6,none⟩=some (Value.int .i64 d)∧W.cell? ⟨w.heap.size,7,none⟩=some (Value.int .i64 s)∧W.cell? ⟨w.heap.size,8,none⟩=some (Value.int .i32 dp)∧W.cell? ⟨w.heap.size,9,none⟩=some (Value.int .i32 rl)∧W.cell? ⟨w.heap.size,10,none⟩=some (Value.int .i64 im)∧W.cell? ⟨w.heap.size+1,0,none⟩=some (Value.string (bA' op))∧W.cell? ⟨w.heap.size+1,1,none⟩=some (Value.int .i64 3)∧W.cell? ⟨w.heap.size+1,2,none⟩=some (Value.int .i64 dg)∧W.cell? ⟨w.heap.size+1,3,none⟩=some (Value.int .i64 0)∧W.cell? ⟨w.heap.size+1,4,none⟩=some (Value.int .i64 mm)∧W.cell? ⟨w.heap.size+1,5,none⟩=some (Value.bool fw)∧W.cell? ⟨w.heap.size+1,6,none⟩=some (Value.bool fn))∧Hid (Fr No W2 W)):=fun W hW=>by
  obtain ⟨q0,q1,q2,q3,q4,q5,q6,q7,q8,q9,q10,q11,q12,q13,q14,q15,q16,q17⟩:=HCells
  exact ⟨⟨hW.out.cell q0 id,hW.out.cell q1 id,hW.out.cell q2 id,hW.out.cell q3 id,hW.out.cell q4 id,hW.out.cell q5 id,hW.out.cell q6 id,hW.out.cell q7 id,hW.out.cell q8 id,hW.out.cell q9 id,hW.out.cell q10 id,hW.out.cell q11 id,hW.out.cell q12 id,hW.out.cell q13 id,hW.out.cell q14 id,hW.out.cell q15 id,hW.out.cell q16 id,hW.out.cell q17 id⟩,hW⟩
 obtain ⟨q0,q1,q2,q3,q4,q5,q6,q7,q8,q9,q10,q11,q12,q13,q14,q15,q16,q17⟩:=HCells
 have HFX:Hid (Fr No W2 W2.drew):=(Fr.refl _ _).drew
 have H0:=HK.out _ HFX
 go_region_held3 (fun W=>(W.cell? ⟨w.heap.size,0,none⟩=some (Value.int .i64 k)∧W.cell? ⟨w.heap.size,1,none⟩=some (Value.int .i64 a)∧W.cell? ⟨w.heap.size,2,none⟩=some (Value.int .i64 c)∧W.cell? ⟨w.heap.size,3,none⟩=some (Value.int .i64 z)∧W.cell? ⟨w.heap.size,4,none⟩=some (Value.bool wd)∧W.cell? ⟨w.heap.size,5,none⟩=some (Value.bool sh)∧W.cell? ⟨w.heap.size,6,none⟩=some (Value.int .i64 d)∧W.cell? ⟨w.heap.size,7,none⟩=some (Value.int .i64 s)∧W.cell? ⟨w.heap.size,8,none⟩=some (Value.int .i32 dp)∧W.cell? ⟨w.heap.size,9,none⟩=some (Value.int .i32 rl)∧W.cell? ⟨w.heap.size,10,none⟩=some (Value.int .i64 im)∧W.cell? ⟨w.heap.size+1,0,none⟩=some (Value.string (bA' op))∧W.cell? ⟨w.heap.size+1,1,none⟩=some (Value.int .i64 3)∧W.cell? ⟨w.heap.size+1,2,none⟩=some (Value.int .i64 dg)∧W.cell? ⟨w.heap.size+1,3,none⟩=some (Value.int .i64 0)∧W.cell? ⟨w.heap.size+1,4,none⟩=some (Value.int .i64 mm)∧W.cell? ⟨w.heap.size+1,5,none⟩=some (Value.bool fw)∧W.cell? ⟨w.heap.size+1,6,none⟩=some (Value.bool fn))∧Hid (Fr No W2 W))
  (first|assumption|exact HK.out _ (by assumption))
  (first|(go_at_call 140;(with_reducible refine (HM.out _).mono ?_);rintro e w3 ⟨rfl,hf3⟩;have HF3:Hid (Fr No W2 w3):=Lib.hid (Fr.trans (Hid.out (by assumption:Hid (Fr No W2 _))) hf3);clear hf3))
 go_wp2_with fail
 go_ret3
 exact ⟨rfl,HF2.out.trans HF3.out⟩
theorem operands_3'(k a c z:Int)(wd sh:Bool)(d s:Nat)(dp rl im:Int)(op:List UInt8)(dg al mm:Nat)(fw fn:Bool)(hd:d<16)(hs:s<16)(ha:al≠0)(hg:∃n:Nat,a=n∧n<16)(w:World):
  Calls prog 104 #[(XI.mk k a c z wd sh d s dp rl im).agg,(FI.mk op 3 dg al mm fw fn).agg] w fun e w'=>e= .returned (opsV (operandsM ⟨k,a,c,z,wd,sh,d,s,dp,rl,im⟩ ⟨op,3,dg,al,mm,fw,fn⟩))∧Fr No w w':=by
 obtain ⟨g,rfl,hg⟩:=hg
 have a1:((al:Int)==0)=false:=by rw [beq_eq_false_iff_ne];omega
 have HQ:Hid (operandsM ⟨k,g,c,z,wd,sh,d,s,dp,rl,im⟩ ⟨op,3,dg,al,mm,fw,fn⟩=(modrmM 3 g d,0,(d:Int))):=Lib.hid (by simp [operandsM,ha])
 rw [HQ.out]
 simp only [opsV]
 have HM:Hid (∀W,Calls prog 140 #[.int .i64 3, .int .i64 g, .int .i64 d] W fun e w'=>e= .returned (.string (bA' (modrmM 3 g d)))∧Fr No W w'):=fun W=>cmodrm_any 3 g d W (by decide) (by omega) (by omega)
 simp only [XI.agg,FI.agg]
 go_enter func104,ntmps104
 go_upto_region 11 with fail
 obtain ⟨W2,hW2⟩:∃W2,W2=((w.alloc (Obj.cells #[Value.int .i64 k,Value.int .i64 g,Value.int .i64 c,Value.int .i64 z,Value.bool wd,Value.bool sh,Value.int .i64 d,Value.int .i64 s,Value.int .i32 dp,Value.int .i32 rl,Value.int .i64 im] 48)).alloc (Obj.cells #[Value.string (bA' op),Value.int .i64 3,Value.int .i64 dg,Value.int .i64 al,Value.int .i64 mm,Value.bool fw,Value.bool fn] 202)):=⟨_,rfl⟩
 have HF2:Hid (Fr No w W2):=by rw [hW2];exact (fr_alloc w _).alloc _
 have HCells:W2.cell? ⟨w.heap.size,0,none⟩=some (Value.int .i64 k)∧W2.cell? ⟨w.heap.size,1,none⟩=some (Value.int .i64 g)∧W2.cell? ⟨w.heap.size,2,none⟩=some (Value.int .i64 c)∧W2.cell? ⟨w.heap.size,3,none⟩=some (Value.int .i64 z)∧W2.cell? ⟨w.heap.size,4,none⟩=some (Value.bool wd)∧W2.cell? ⟨w.heap.size,5,none⟩=some (Value.bool sh)∧W2.cell? ⟨w.heap.size,6,none⟩=some (Value.int .i64 d)∧W2.cell? ⟨w.heap.size,7,none⟩=some (Value.int .i64 s)∧W2.cell? ⟨w.heap.size,8,none⟩=some (Value.int .i32 dp)∧W2.cell? ⟨w.heap.size,9,none⟩=some (Value.int .i32 rl)∧W2.cell? ⟨w.heap.size,10,none⟩=some (Value.int .i64 im)∧W2.cell? ⟨w.heap.size+1,0,none⟩=some (Value.string (bA' op))∧W2.cell? ⟨w.heap.size+1,1,none⟩=some (Value.int .i64 3)∧W2.cell? ⟨w.heap.size+1,2,none⟩=some (Value.int .i64 dg)∧W2.cell? ⟨w.heap.size+1,3,none⟩=some (Value.int .i64 al)∧W2.cell? ⟨w.heap.size+1,4,none⟩=some (Value.int .i64 mm)∧W2.cell? ⟨w.heap.size+1,5,none⟩=some (Value.bool fw)∧W2.cell? ⟨w.heap.size+1,6,none⟩=some (Value.bool fn):=by
  have e1:CellsAt W2 w.heap.size 0 [Value.int .i64 k,Value.int .i64 g,Value.int .i64 c,Value.int .i64 z,Value.bool wd,Value.bool sh,Value.int .i64 d,Value.int .i64 s,Value.int .i32 dp,Value.int .i32 rl,Value.int .i64 im]:=by rw [hW2];exact ((Fr.refl No _).alloc _).cells (CellsAt.new w _ _) id
  have e2:CellsAt W2 (w.heap.size+1) 0 [Value.string (bA' op),Value.int .i64 3,Value.int .i64 dg,Value.int .i64 al,Value.int .i64 mm,Value.bool fw,Value.bool fn]:=by rw [hW2,←size_alloc];exact CellsAt.new _ _ _
  exact ⟨e1 0 _ rfl,e1 1 _ rfl,e1 2 _ rfl,e1 3 _ rfl,e1 4 _ rfl,e1 5 _ rfl,e1 6 _ rfl,e1 7 _ rfl,e1 8 _ rfl,e1 9 _ rfl,e1 10 _ rfl,e2 0 _ rfl,e2 1 _ rfl,e2 2 _ rfl,e2 3 _ rfl,e2 4 _ rfl,e2 5 _ rfl,e2 6 _ rfl⟩
 rw [←hW2]
 clear hW2
 have HK:Hid (∀W,Hid (Fr No W2 W)→(W.cell? ⟨w.heap.size,0,none⟩=some (Value.int .i64 k)∧W.cell? ⟨w.heap.size,1,none⟩=some (Value.int .i64 g)∧W.cell? ⟨w.heap.size,2,none⟩=some (Value.int .i64 c)∧W.cell? ⟨w.heap.size,3,none⟩=some (Value.int .i64 z)∧W.cell? ⟨w.heap.size,4,none⟩=some (Value.bool wd)∧W.cell? ⟨w.heap.size,5,none⟩=some (Value.bool sh)∧W.cell? ⟨w.heap.size,6,none⟩=some (Value.int .i64 d)∧W.cell? ⟨w.heap.size,7,none⟩=some (Value.int .i64 s)∧W.cell? ⟨w.heap.size,8,none⟩=some (Value.int .i32 dp)∧W.cell? ⟨w.heap.size,9,none⟩=some (Value.int .i32 rl)∧W.cell? ⟨w.heap.size,10,none⟩=some (Value.int .i64 im)∧W.cell? ⟨w.heap.size+1,0,none⟩=some (Value.string (bA' op))∧W.cell? ⟨w.heap.size+1,1,none⟩=some (Value.int .i64 3)∧W.cell? ⟨w.heap.size+1,2,none⟩=some (Value.int .i64 dg)∧W.cell? ⟨w.heap.size+1,3,none⟩=some (Value.int .i64 al)∧W.cell? ⟨w.heap.size+1,4,none⟩=some (Value.int .i64 mm)∧W.cell? ⟨w.heap.size+1,5,none⟩=some (Value.bool fw)∧W.cell? ⟨w.heap.size+1,6,none⟩=some (Value.bool fn))∧Hid (Fr No W2 W)):=fun W hW=>by
  obtain ⟨q0,q1,q2,q3,q4,q5,q6,q7,q8,q9,q10,q11,q12,q13,q14,q15,q16,q17⟩:=HCells
  exact ⟨⟨hW.out.cell q0 id,hW.out.cell q1 id,hW.out.cell q2 id,hW.out.cell q3 id,hW.out.cell q4 id,hW.out.cell q5 id,hW.out.cell q6 id,hW.out.cell q7 id,hW.out.cell q8 id,hW.out.cell q9 id,hW.out.cell q10 id,hW.out.cell q11 id,hW.out.cell q12 id,hW.out.cell q13 id,hW.out.cell q14 id,hW.out.cell q15 id,hW.out.cell q16 id,hW.out.cell q17 id⟩,hW⟩
 obtain ⟨q0,q1,q2,q3,q4,q5,q6,q7,q8,q9,q10,q11,q12,q13,q14,q15,q16,q17⟩:=HCells
 have HFX:Hid (Fr No W2 W2.drew):=(Fr.refl _ _).drew
 have H0:=HK.out _ HFX
 go_region_held3 (fun W=>(W.cell? ⟨w.heap.size,0,none⟩=some (Value.int .i64 k)∧W.cell? ⟨w.heap.size,1,none⟩=some (Value.int .i64 g)∧W.cell? ⟨w.heap.size,2,none⟩=some (Value.int .i64 c)∧W.cell? ⟨w.heap.size,3,none⟩=some (Value.int .i64 z)∧W.cell? ⟨w.heap.size,4,none⟩=some (Value.bool wd)∧W.cell? ⟨w.heap.size,5,none⟩=some (Value.bool sh)∧W.cell? ⟨w.heap.size,6,none⟩=some (Value.int .i64 d)∧W.cell? ⟨w.heap.size,7,none⟩=some (Value.int .i64 s)∧W.cell? ⟨w.heap.size,8,none⟩=some (Value.int .i32 dp)∧W.cell? ⟨w.heap.size,9,none⟩=some (Value.int .i32 rl)∧W.cell? ⟨w.heap.size,10,none⟩=some (Value.int .i64 im)∧W.cell? ⟨w.heap.size+1,0,none⟩=some (Value.string (bA' op))∧W.cell? ⟨w.heap.size+1,1,none⟩=some (Value.int .i64 3)∧W.cell? ⟨w.heap.size+1,2,none⟩=some (Value.int .i64 dg)∧W.cell? ⟨w.heap.size+1,3,none⟩=some (Value.int .i64 al)∧W.cell? ⟨w.heap.size+1,4,none⟩=some (Value.int .i64 mm)∧W.cell? ⟨w.heap.size+1,5,none⟩=some (Value.bool fw)∧W.cell? ⟨w.heap.size+1,6,none⟩=some (Value.bool fn))∧Hid (Fr No W2 W))
  (first|assumption|exact HK.out _ (by assumption))
  (first|(go_at_call 140;(with_reducible refine (HM.out _).mono ?_);rintro e w3 ⟨rfl,hf3⟩;have HF3:Hid (Fr No W2 w3):=Lib.hid (Fr.trans (Hid.out (by assumption:Hid (Fr No W2 _))) hf3);clear hf3))
 go_wp2_with fail
 go_ret3
 exact ⟨rfl,HF2.out.trans HF3.out⟩
theorem operands_4(k a c z:Int)(wd sh:Bool)(d s:Nat)(dp rl im:Int)(op:List UInt8)(dg al mm:Nat)(fw fn:Bool)(hd:d<16)(hs:s<16)(w:World):
  Calls prog 104 #[(XI.mk k a c z wd sh d s dp rl im).agg,(FI.mk op 4 dg al mm fw fn).agg] w fun e w'=>e= .returned (opsV (operandsM ⟨k,a,c,z,wd,sh,d,s,dp,rl,im⟩ ⟨op,4,dg,al,mm,fw,fn⟩))∧Fr No w w':=by
 have HQ:Hid (operandsM ⟨k,a,c,z,wd,sh,d,s,dp,rl,im⟩ ⟨op,4,dg,al,mm,fw,fn⟩=([],0,(d:Int))):=Lib.hid rfl
 rw [HQ.out]
 simp only [opsV]
 simp only [XI.agg,FI.agg]
 go_enter func104,ntmps104
 go_upto_region 13 with fail
 obtain ⟨W2,hW2⟩:∃W2,W2=((w.alloc (Obj.cells #[Value.int .i64 k,Value.int .i64 a,Value.int .i64 c,Value.int .i64 z,Value.bool wd,Value.bool sh,Value.int .i64 d,Value.int .i64 s,Value.int .i32 dp,Value.int .i32 rl,Value.int .i64 im] 48)).alloc (Obj.cells #[Value.string (bA' op),Value.int .i64 4,Value.int .i64 dg,Value.int .i64 al,Value.int .i64 mm,Value.bool fw,Value.bool fn] 202)):=⟨_,rfl⟩
 have HF2:Hid (Fr No w W2):=by rw [hW2];exact (fr_alloc w _).alloc _
 have HCells:W2.cell? ⟨w.heap.size,0,none⟩=some (Value.int .i64 k)∧W2.cell? ⟨w.heap.size,1,none⟩=some (Value.int .i64 a)∧W2.cell? ⟨w.heap.size,2,none⟩=some (Value.int .i64 c)∧W2.cell? ⟨w.heap.size,3,none⟩=some (Value.int .i64 z)∧W2.cell? ⟨w.heap.size,4,none⟩=some (Value.bool wd)∧W2.cell? ⟨w.heap.size,5,none⟩=some (Value.bool sh)∧W2.cell? ⟨w.heap.size,6,none⟩=some (Value.int .i64 d)∧W2.cell? ⟨w.heap.size,7,none⟩=some (Value.int .i64 s)∧W2.cell? ⟨w.heap.size,8,none⟩=some (Value.int .i32 dp)∧W2.cell? ⟨w.heap.size,9,none⟩=some (Value.int .i32 rl)∧W2.cell? ⟨w.heap.size,10,none⟩=some (Value.int .i64 im)∧W2.cell? ⟨w.heap.size+1,0,none⟩=some (Value.string (bA' op))∧W2.cell? ⟨w.heap.size+1,1,none⟩=some (Value.int .i64 4)∧W2.cell? ⟨w.heap.size+1,2,none⟩=some (Value.int .i64 dg)∧W2.cell? ⟨w.heap.size+1,3,none⟩=some (Value.int .i64 al)∧W2.cell? ⟨w.heap.size+1,4,none⟩=some (Value.int .i64 mm)∧W2.cell? ⟨w.heap.size+1,5,none⟩=some (Value.bool fw)∧W2.cell? ⟨w.heap.size+1,6,none⟩=some (Value.bool fn):=by
  have e1:CellsAt W2 w.heap.size 0 [Value.int .i64 k,Value.int .i64 a,Value.int .i64 c,Value.int .i64 z,Value.bool wd,Value.bool sh,Value.int .i64 d,Value.int .i64 s,Value.int .i32 dp,Value.int .i32 rl,Value.int .i64 im]:=by rw [hW2];exact ((Fr.refl No _).alloc _).cells (CellsAt.new w _ _) id
  have e2:CellsAt W2 (w.heap.size+1) 0 [Value.string (bA' op),Value.int .i64 4,Value.int .i64 dg,Value.int .i64 al,Value.int .i64 mm,Value.bool fw,Value.bool fn]:=by rw [hW2,←size_alloc];exact CellsAt.new _ _ _
  exact ⟨e1 0 _ rfl,e1 1 _ rfl,e1 2 _ rfl,e1 3 _ rfl,e1 4 _ rfl,e1 5 _ rfl,e1 6 _ rfl,e1 7 _ rfl,e1 8 _ rfl,e1 9 _ rfl,e1 10 _ rfl,e2 0 _ rfl,e2 1 _ rfl,e2 2 _ rfl,e2 3 _ rfl,e2 4 _ rfl,e2 5 _ rfl,e2 6 _ rfl⟩
 rw [←hW2]
 clear hW2
 have HK:Hid (∀W,Hid (Fr No W2 W)→(W.cell? ⟨w.heap.size,0,none⟩=some (Value.int .i64 k)∧W.cell? ⟨w.heap.size,1,none⟩=some (Value.int .i64 a)∧W.cell? ⟨w.heap.size,2,none⟩=some (Value.int .i64 c)∧W.cell? ⟨w.heap.size,3,none⟩=some (Value.int .i64 z)∧W.cell? ⟨w.heap.size,4,none⟩=some (Value.bool wd)∧W.cell? ⟨w.heap.size,5,none⟩=some (Value.bool sh)∧W.cell? ⟨w.heap.size,6,none⟩=some (Value.int .i64 d)∧W.cell? ⟨w.heap.size,7,none⟩=some (Value.int .i64 s)∧W.cell? ⟨w.heap.size,8,none⟩=some (Value.int .i32 dp)∧W.cell? ⟨w.heap.size,9,none⟩=some (Value.int .i32 rl)∧W.cell? ⟨w.heap.size,10,none⟩=some (Value.int .i64 im)∧W.cell? ⟨w.heap.size+1,0,none⟩=some (Value.string (bA' op))∧W.cell? ⟨w.heap.size+1,1,none⟩=some (Value.int .i64 4)∧W.cell? ⟨w.heap.size+1,2,none⟩=some (Value.int .i64 dg)∧W.cell? ⟨w.heap.size+1,3,none⟩=some (Value.int .i64 al)∧W.cell? ⟨w.heap.size+1,4,none⟩=some (Value.int .i64 mm)∧W.cell? ⟨w.heap.size+1,5,none⟩=some (Value.bool fw)∧W.cell? ⟨w.heap.size+1,6,none⟩=some (Value.bool fn))∧Hid (Fr No W2 W)):=fun W hW=>by
  obtain ⟨q0,q1,q2,q3,q4,q5,q6,q7,q8,q9,q10,q11,q12,q13,q14,q15,q16,q17⟩:=HCells
  exact ⟨⟨hW.out.cell q0 id,hW.out.cell q1 id,hW.out.cell q2 id,hW.out.cell q3 id,hW.out.cell q4 id,hW.out.cell q5 id,hW.out.cell q6 id,hW.out.cell q7 id,hW.out.cell q8 id,hW.out.cell q9 id,hW.out.cell q10 id,hW.out.cell q11 id,hW.out.cell q12 id,hW.out.cell q13 id,hW.out.cell q14 id,hW.out.cell q15 id,hW.out.cell q16 id,hW.out.cell q17 id⟩,hW⟩
 obtain ⟨q0,q1,q2,q3,q4,q5,q6,q7,q8,q9,q10,q11,q12,q13,q14,q15,q16,q17⟩:=HCells
 clear HK
 go_quiet (fail)
 go_wp2_with fail
 go_ret3
 exact ⟨rfl,(Fr.drewN HF2.out _)⟩
theorem operands_7t(k a c z:Int)(wd:Bool)(d s:Nat)(dp rl im:Int)(op:List UInt8)(dg al mm:Nat)(fw fn:Bool)(hd:d<16)(hs:s<16)(w:World):
  Calls prog 104 #[(XI.mk k a c z wd true d s dp rl im).agg,(FI.mk op 7 dg al mm fw fn).agg] w fun e w'=>e= .returned (opsV (operandsM ⟨k,a,c,z,wd,true,d,s,dp,rl,im⟩ ⟨op,7,dg,al,mm,fw,fn⟩))∧Fr No w w':=by
 have HQ:Hid (operandsM ⟨k,a,c,z,wd,true,d,s,dp,rl,im⟩ ⟨op,7,dg,al,mm,fw,fn⟩=(bytesI rl 1,0,0)):=Lib.hid rfl
 rw [HQ.out]
 simp only [opsV]
 have HM:Hid (∀W,Calls prog 23 #[.int .u64 (IntKind.u64.wrap rl), .int .i64 1] W fun e w'=>e= .returned (.string (bA' (bytesI rl 1)))∧Fr No W w'):=fun W=>bytesI_any rl 1 (by decide) W
 simp only [XI.agg,FI.agg]
 go_enter func104,ntmps104
 go_wp2_with (go_at_call 23;(with_reducible refine (HM.out _).mono ?_);rintro e w3 ⟨rfl,hf3⟩)
 go_ret3
 exact ⟨rfl,((fr_alloc w _).alloc _).trans hf3⟩
theorem operands_7f(k a c z:Int)(wd:Bool)(d s:Nat)(dp rl im:Int)(op:List UInt8)(dg al mm:Nat)(fw fn:Bool)(hd:d<16)(hs:s<16)(w:World):
  Calls prog 104 #[(XI.mk k a c z wd false d s dp rl im).agg,(FI.mk op 7 dg al mm fw fn).agg] w fun e w'=>e= .returned (opsV (operandsM ⟨k,a,c,z,wd,false,d,s,dp,rl,im⟩ ⟨op,7,dg,al,mm,fw,fn⟩))∧Fr No w w':=by
 have HQ:Hid (operandsM ⟨k,a,c,z,wd,false,d,s,dp,rl,im⟩ ⟨op,7,dg,al,mm,fw,fn⟩=(bytesI rl 4,0,0)):=Lib.hid rfl
 rw [HQ.out]
 simp only [opsV]
 have HM:Hid (∀W,Calls prog 23 #[.int .u64 (IntKind.u64.wrap rl), .int .i64 4] W fun e w'=>e= .returned (.string (bA' (bytesI rl 4)))∧Fr No W w'):=fun W=>bytesI_any rl 4 (by decide) W
 simp only [XI.agg,FI.agg]
 go_enter func104,ntmps104
 go_wp2_with (go_at_call 23;(with_reducible refine (HM.out _).mono ?_);rintro e w3 ⟨rfl,hf3⟩)
 go_ret3
 exact ⟨rfl,((fr_alloc w _).alloc _).trans hf3⟩
theorem operands_5(k a c z:Int)(wd sh:Bool)(d s:Nat)(dp rl im:Int)(op:List UInt8)(dg al mm:Nat)(fw fn:Bool)(hd:d<16)(hs:s<16)(w:World):
  Calls prog 104 #[(XI.mk k a c z wd sh d s dp rl im).agg,(FI.mk op 5 dg al mm fw fn).agg] w fun e w'=>e= .returned (opsV (operandsM ⟨k,a,c,z,wd,sh,d,s,dp,rl,im⟩ ⟨op,5,dg,al,mm,fw,fn⟩))∧Fr No w w':=by
 have HM:Hid (∀W,Calls prog 140 #[.int .i64 2, .int .i64 d, .int .i64 s] W fun e w'=>e= .returned (.string (bA' (modrmM 2 d s)))∧Fr No W w'):=fun W=>cmodrm_any 2 d s W (by decide) (by omega) (by omega)
 have HB:Hid (∀W,Calls prog 23 #[.int .u64 (IntKind.u64.wrap dp), .int .i64 4] W fun e w'=>e= .returned (.string (bA' (bytesI dp 4)))∧Fr No W w'):=fun W=>bytesI_any dp 4 (by decide) W
 have L1:(modrmM 2 d s).length≤1000:=by simp [modrmM]
 have L2:(bytesI dp 4).length≤1000:=by simp [bytesI]
 have HQ:operandsM ⟨k,a,c,z,wd,sh,d,s,dp,rl,im⟩ ⟨op,5,dg,al,mm,fw,fn⟩=(modrmM 2 d s++(if (s:Int)%8=4 then [0x24] else [])++bytesI dp 4,(d:Int),(s:Int)):=rfl
 rw [HQ]
 clear HQ
 generalize modrmM 2 (d:Int) (s:Int)=M at*
 generalize bytesI dp 4=B at*
 have A1:=addL M [0x24] (by omega) (by decide)
 have A2:=addL (M++ [0x24]) B (by rw [List.length_append];simp;omega) (by omega)
 have A3:=addL M B (by omega) (by omega)
 have A1':∀W,(Op.stringOp .add (bA' M) ⟨#[36]⟩).run prog W= .ok (.string (bA' (M++ [0x24]))) W:=A1
 by_cases h4:(s:Int)%8=4
 ·rw [if_pos h4]
  simp only [opsV]
  simp only [XI.agg,FI.agg]
  go_enter func104,ntmps104
  go_upto_region 15 with fail
  obtain ⟨W2,hW2⟩:∃W2,W2=((w.alloc (Obj.cells #[Value.int .i64 k,Value.int .i64 a,Value.int .i64 c,Value.int .i64 z,Value.bool wd,Value.bool sh,Value.int .i64 d,Value.int .i64 s,Value.int .i32 dp,Value.int .i32 rl,Value.int .i64 im] 48)).alloc (Obj.cells #[Value.string (bA' op),Value.int .i64 5,Value.int .i64 dg,Value.int .i64 al,Value.int .i64 mm,Value.bool fw,Value.bool fn] 202)):=⟨_,rfl⟩
  have HF2:Hid (Fr No w W2):=by rw [hW2];exact (fr_alloc w _).alloc _
  have HCells:W2.cell? ⟨w.heap.size,0,none⟩=some (Value.int .i64 k)∧W2.cell? ⟨w.heap.size,1,none⟩=some (Value.int .i64 a)∧W2.cell? ⟨w.heap.size,2,none⟩=some (Value.int .i64 c)∧W2.cell? ⟨w.heap.size,3,none⟩=some (Value.int .i64 z)∧W2.cell? ⟨w.heap.size,4,none⟩=some (Value.bool wd)∧W2.cell? ⟨w.heap.size,5,none⟩=some (Value.bool sh)∧W2.cell? ⟨w.heap.size,6,none⟩=some (Value.int .i64 d)∧W2.cell? ⟨w.heap.size,7,none⟩=some (Value.int .i64 s)∧W2.cell? ⟨w.heap.size,8,none⟩=some (Value.int .i32 dp)∧W2.cell? ⟨w.heap.size,9,none⟩=some (Value.int .i32 rl)∧W2.cell? ⟨w.heap.size,10,none⟩=some (Value.int .i64 im)∧W2.cell? ⟨w.heap.size+1,0,none⟩=some (Value.string (bA' op))∧W2.cell? ⟨w.heap.size+1,1,none⟩=some (Value.int .i64 5)∧W2.cell? ⟨w.heap.size+1,2,none⟩=some (Value.int .i64 dg)∧W2.cell? ⟨w.heap.size+1,3,none⟩=some (Value.int .i64 al)∧W2.cell? ⟨w.heap.size+1,4,none⟩=some (Value.int .i64 mm)∧W2.cell? ⟨w.heap.size+1,5,none⟩=some (Value.bool fw)∧W2.cell? ⟨w.heap.size+1,6,none⟩=some (Value.bool fn):=by
   have e1:CellsAt W2 w.heap.size 0 [Value.int .i64 k,Value.int .i64 a,Value.int .i64 c,Value.int .i64 z,Value.bool wd,Value.bool sh,Value.int .i64 d,Value.int .i64 s,Value.int .i32 dp,Value.int .i32 rl,Value.int .i64 im]:=by rw [hW2];exact ((Fr.refl No _).alloc _).cells (CellsAt.new w _ _) id
   have e2:CellsAt W2 (w.heap.size+1) 0 [Value.string (bA' op),Value.int .i64 5,Value.int .i64 dg,Value.int .i64 al,Value.int .i64 mm,Value.bool fw,Value.bool fn]:=by rw [hW2,←size_alloc];exact CellsAt.new _ _ _
   exact ⟨e1 0 _ rfl,e1 1 _ rfl,e1 2 _ rfl,e1 3 _ rfl,e1 4 _ rfl,e1 5 _ rfl,e1 6 _ rfl,e1 7 _ rfl,e1 8 _ rfl,e1 9 _ rfl,e1 10 _ rfl,e2 0 _ rfl,e2 1 _ rfl,e2 2 _ rfl,e2 3 _ rfl,e2 4 _ rfl,e2 5 _ rfl,e2 6 _ rfl⟩
  rw [←hW2]
  clear hW2
  have HK:Hid (∀W,Hid (Fr No W2 W)→(W.cell? ⟨w.heap.size,0,none⟩=some (Value.int .i64 k)∧W.cell? ⟨w.heap.size,1,none⟩=some (Value.int .i64 a)∧W.cell? ⟨w.heap.size,2,none⟩=some (Value.int .i64 c)∧W.cell? ⟨w.heap.size,3,none⟩=some (Value.int .i64 z)∧W.cell? ⟨w.heap.size,4,none⟩=some (Value.bool wd)∧W.cell? ⟨w.heap.size,5,none⟩=some (Value.bool sh)∧W.cell? ⟨w.heap.size,6,none⟩=some (Value.int .i64 d)∧W.cell? ⟨w.heap.size,7,none⟩=some (Value.int .i64 s)∧W.cell? ⟨w.heap.size,8,none⟩=some (Value.int .i32 dp)∧W.cell? ⟨w.heap.size,9,none⟩=some (Value.int .i32 rl)∧W.cell? ⟨w.heap.size,10,none⟩=some (Value.int .i64 im)∧W.cell? ⟨w.heap.size+1,0,none⟩=some (Value.string (bA' op))∧W.cell? ⟨w.heap.size+1,1,none⟩=some (Value.int .i64 5)∧W.cell? ⟨w.heap.size+1,2,none⟩=some (Value.int .i64 dg)∧W.cell? ⟨w.heap.size+1,3,none⟩=some (Value.int .i64 al)∧W.cell? ⟨w.heap.size+1,4,none⟩=some (Value.int .i64 mm)∧W.cell? ⟨w.heap.size+1,5,none⟩=some (Value.bool fw)∧W.cell? ⟨w.heap.size+1,6,none⟩=some (Value.bool fn))∧Hid (Fr No W2 W)):=fun W hW=>by
   obtain ⟨q0,q1,q2,q3,q4,q5,q6,q7,q8,q9,q10,q11,q12,q13,q14,q15,q16,q17⟩:=HCells
   exact ⟨⟨hW.out.cell q0 id,hW.out.cell q1 id,hW.out.cell q2 id,hW.out.cell q3 id,hW.out.cell q4 id,hW.out.cell q5 id,hW.out.cell q6 id,hW.out.cell q7 id,hW.out.cell q8 id,hW.out.cell q9 id,hW.out.cell q10 id,hW.out.cell q11 id,hW.out.cell q12 id,hW.out.cell q13 id,hW.out.cell q14 id,hW.out.cell q15 id,hW.out.cell q16 id,hW.out.cell q17 id⟩,hW⟩
  obtain ⟨q0,q1,q2,q3,q4,q5,q6,q7,q8,q9,q10,q11,q12,q13,q14,q15,q16,q17⟩:=HCells
  clear HK
  go_quiet (fail)
  have HFX:Hid (Fr No W2 (W2.drewN nq)):=(Fr.refl _ _).drewN _
  obtain ⟨W4,hW4⟩:∃W4,W4=W2.drewN nq:=⟨_,rfl⟩
  rw [←hW4] at HFX ⊢
  have r8:=HFX.out.cell q8 id
  have R8:Hid (∀W,Fr No W4 W→W.cell? ⟨w.heap.size,8,none⟩=some (Value.int .i32 dp)):=fun W hf=>hf.cell r8 id
  clear hW4
  go_wp2_with (first
   |(go_at_call 140;(with_reducible refine (HM.out _).mono ?_);rintro e w3 ⟨rfl,hf3⟩;have r8':=R8.out _ hf3)
   |(go_at_call 23;(with_reducible refine (HB.out _).mono ?_);rintro e w5 ⟨rfl,hf5⟩))
  go_ret3
  exact ⟨by first|rfl|simp [opsV],((HF2.out.trans HFX.out).trans hf3).trans hf5⟩
 ·rw [if_neg h4,List.append_nil]
  have h4':((s:Int)%8==4)=false:=by rw [beq_eq_false_iff_ne];exact h4
  simp only [opsV]
  simp only [XI.agg,FI.agg]
  go_enter func104,ntmps104
  go_upto_region 15 with fail
  obtain ⟨W2,hW2⟩:∃W2,W2=((w.alloc (Obj.cells #[Value.int .i64 k,Value.int .i64 a,Value.int .i64 c,Value.int .i64 z,Value.bool wd,Value.bool sh,Value.int .i64 d,Value.int .i64 s,Value.int .i32 dp,Value.int .i32 rl,Value.int .i64 im] 48)).alloc (Obj.cells #[Value.string (bA' op),Value.int .i64 5,Value.int .i64 dg,Value.int .i64 al,Value.int .i64 mm,Value.bool fw,Value.bool fn] 202)):=⟨_,rfl⟩
  have HF2:Hid (Fr No w W2):=by rw [hW2];exact (fr_alloc w _).alloc _
  have HCells:W2.cell? ⟨w.heap.size,0,none⟩=some (Value.int .i64 k)∧W2.cell? ⟨w.heap.size,1,none⟩=some (Value.int .i64 a)∧W2.cell? ⟨w.heap.size,2,none⟩=some (Value.int .i64 c)∧W2.cell? ⟨w.heap.size,3,none⟩=some (Value.int .i64 z)∧W2.cell? ⟨w.heap.size,4,none⟩=some (Value.bool wd)∧W2.cell? ⟨w.heap.size,5,none⟩=some (Value.bool sh)∧W2.cell? ⟨w.heap.size,6,none⟩=some (Value.int .i64 d)∧W2.cell? ⟨w.heap.size,7,none⟩=some (Value.int .i64 s)∧W2.cell? ⟨w.heap.size,8,none⟩=some (Value.int .i32 dp)∧W2.cell? ⟨w.heap.size,9,none⟩=some (Value.int .i32 rl)∧W2.cell? ⟨w.heap.size,10,none⟩=some (Value.int .i64 im)∧W2.cell? ⟨w.heap.size+1,0,none⟩=some (Value.string (bA' op))∧W2.cell? ⟨w.heap.size+1,1,none⟩=some (Value.int .i64 5)∧W2.cell? ⟨w.heap.size+1,2,none⟩=some (Value.int .i64 dg)∧W2.cell? ⟨w.heap.size+1,3,none⟩=some (Value.int .i64 al)∧W2.cell? ⟨w.heap.size+1,4,none⟩=some (Value.int .i64 mm)∧W2.cell? ⟨w.heap.size+1,5,none⟩=some (Value.bool fw)∧W2.cell? ⟨w.heap.size+1,6,none⟩=some (Value.bool fn):=by
   have e1:CellsAt W2 w.heap.size 0 [Value.int .i64 k,Value.int .i64 a,Value.int .i64 c,Value.int .i64 z,Value.bool wd,Value.bool sh,Value.int .i64 d,Value.int .i64 s,Value.int .i32 dp,Value.int .i32 rl,Value.int .i64 im]:=by rw [hW2];exact ((Fr.refl No _).alloc _).cells (CellsAt.new w _ _) id
   have e2:CellsAt W2 (w.heap.size+1) 0 [Value.string (bA' op),Value.int .i64 5,Value.int .i64 dg,Value.int .i64 al,Value.int .i64 mm,Value.bool fw,Value.bool fn]:=by rw [hW2,←size_alloc];exact CellsAt.new _ _ _
   exact ⟨e1 0 _ rfl,e1 1 _ rfl,e1 2 _ rfl,e1 3 _ rfl,e1 4 _ rfl,e1 5 _ rfl,e1 6 _ rfl,e1 7 _ rfl,e1 8 _ rfl,e1 9 _ rfl,e1 10 _ rfl,e2 0 _ rfl,e2 1 _ rfl,e2 2 _ rfl,e2 3 _ rfl,e2 4 _ rfl,e2 5 _ rfl,e2 6 _ rfl⟩
  rw [←hW2]
  clear hW2
  have HK:Hid (∀W,Hid (Fr No W2 W)→(W.cell? ⟨w.heap.size,0,none⟩=some (Value.int .i64 k)∧W.cell? ⟨w.heap.size,1,none⟩=some (Value.int .i64 a)∧W.cell? ⟨w.heap.size,2,none⟩=some (Value.int .i64 c)∧W.cell? ⟨w.heap.size,3,none⟩=some (Value.int .i64 z)∧W.cell? ⟨w.heap.size,4,none⟩=some (Value.bool wd)∧W.cell? ⟨w.heap.size,5,none⟩=some (Value.bool sh)∧W.cell? ⟨w.heap.size,6,none⟩=some (Value.int .i64 d)∧W.cell? ⟨w.heap.size,7,none⟩=some (Value.int .i64 s)∧W.cell? ⟨w.heap.size,8,none⟩=some (Value.int .i32 dp)∧W.cell? ⟨w.heap.size,9,none⟩=some (Value.int .i32 rl)∧W.cell? ⟨w.heap.size,10,none⟩=some (Value.int .i64 im)∧W.cell? ⟨w.heap.size+1,0,none⟩=some (Value.string (bA' op))∧W.cell? ⟨w.heap.size+1,1,none⟩=some (Value.int .i64 5)∧W.cell? ⟨w.heap.size+1,2,none⟩=some (Value.int .i64 dg)∧W.cell? ⟨w.heap.size+1,3,none⟩=some (Value.int .i64 al)∧W.cell? ⟨w.heap.size+1,4,none⟩=some (Value.int .i64 mm)∧W.cell? ⟨w.heap.size+1,5,none⟩=some (Value.bool fw)∧W.cell? ⟨w.heap.size+1,6,none⟩=some (Value.bool fn))∧Hid (Fr No W2 W)):=fun W hW=>by
   obtain ⟨q0,q1,q2,q3,q4,q5,q6,q7,q8,q9,q10,q11,q12,q13,q14,q15,q16,q17⟩:=HCells
   exact ⟨⟨hW.out.cell q0 id,hW.out.cell q1 id,hW.out.cell q2 id,hW.out.cell q3 id,hW.out.cell q4 id,hW.out.cell q5 id,hW.out.cell q6 id,hW.out.cell q7 id,hW.out.cell q8 id,hW.out.cell q9 id,hW.out.cell q10 id,hW.out.cell q11 id,hW.out.cell q12 id,hW.out.cell q13 id,hW.out.cell q14 id,hW.out.cell q15 id,hW.out.cell q16 id,hW.out.cell q17 id⟩,hW⟩
  obtain ⟨q0,q1,q2,q3,q4,q5,q6,q7,q8,q9,q10,q11,q12,q13,q14,q15,q16,q17⟩:=HCells
  clear HK
  go_quiet (fail)
  have HFX:Hid (Fr No W2 (W2.drewN nq)):=(Fr.refl _ _).drewN _
  obtain ⟨W4,hW4⟩:∃W4,W4=W2.drewN nq:=⟨_,rfl⟩
  rw [←hW4] at HFX ⊢
  have r8:=HFX.out.cell q8 id
  have R8:Hid (∀W,Fr No W4 W→W.cell? ⟨w.heap.size,8,none⟩=some (Value.int .i32 dp)):=fun W hf=>hf.cell r8 id
  clear hW4
  go_wp2_with (first
   |(go_at_call 140;(with_reducible refine (HM.out _).mono ?_);rintro e w3 ⟨rfl,hf3⟩;have r8':=R8.out _ hf3)
   |(go_at_call 23;(with_reducible refine (HB.out _).mono ?_);rintro e w5 ⟨rfl,hf5⟩))
  go_ret3
  exact ⟨by first|rfl|simp [opsV],((HF2.out.trans HFX.out).trans hf3).trans hf5⟩
theorem operands_6(k a c z:Int)(wd sh:Bool)(d s:Nat)(dp rl im:Int)(op:List UInt8)(dg al mm:Nat)(fw fn:Bool)(hd:d<16)(hs:s<16)(w:World):
  Calls prog 104 #[(XI.mk k a c z wd sh d s dp rl im).agg,(FI.mk op 6 dg al mm fw fn).agg] w fun e w'=>e= .returned (opsV (operandsM ⟨k,a,c,z,wd,sh,d,s,dp,rl,im⟩ ⟨op,6,dg,al,mm,fw,fn⟩))∧Fr No w w':=by
 have HM:Hid (∀W,Calls prog 140 #[.int .i64 2, .int .i64 s, .int .i64 d] W fun e w'=>e= .returned (.string (bA' (modrmM 2 s d)))∧Fr No W w'):=fun W=>cmodrm_any 2 s d W (by decide) (by omega) (by omega)
 have HB:Hid (∀W,Calls prog 23 #[.int .u64 (IntKind.u64.wrap dp), .int .i64 4] W fun e w'=>e= .returned (.string (bA' (bytesI dp 4)))∧Fr No W w'):=fun W=>bytesI_any dp 4 (by decide) W
 have L1:(modrmM 2 s d).length≤1000:=by simp [modrmM]
 have L2:(bytesI dp 4).length≤1000:=by simp [bytesI]
 have HQ:operandsM ⟨k,a,c,z,wd,sh,d,s,dp,rl,im⟩ ⟨op,6,dg,al,mm,fw,fn⟩=(modrmM 2 s d++(if (d:Int)%8=4 then [0x24] else [])++bytesI dp 4,(s:Int),(d:Int)):=rfl
 rw [HQ]
 clear HQ
 generalize modrmM 2 (s:Int) (d:Int)=M at*
 generalize bytesI dp 4=B at*
 have A1:=addL M [0x24] (by omega) (by decide)
 have A2:=addL (M++ [0x24]) B (by rw [List.length_append];simp;omega) (by omega)
 have A3:=addL M B (by omega) (by omega)
 have A1':∀W,(Op.stringOp .add (bA' M) ⟨#[36]⟩).run prog W= .ok (.string (bA' (M++ [0x24]))) W:=A1
 by_cases h4:(d:Int)%8=4
 ·rw [if_pos h4]
  simp only [opsV]
  simp only [XI.agg,FI.agg]
  go_enter func104,ntmps104
  go_upto_region 17 with fail
  obtain ⟨W2,hW2⟩:∃W2,W2=((w.alloc (Obj.cells #[Value.int .i64 k,Value.int .i64 a,Value.int .i64 c,Value.int .i64 z,Value.bool wd,Value.bool sh,Value.int .i64 d,Value.int .i64 s,Value.int .i32 dp,Value.int .i32 rl,Value.int .i64 im] 48)).alloc (Obj.cells #[Value.string (bA' op),Value.int .i64 6,Value.int .i64 dg,Value.int .i64 al,Value.int .i64 mm,Value.bool fw,Value.bool fn] 202)):=⟨_,rfl⟩
  have HF2:Hid (Fr No w W2):=by rw [hW2];exact (fr_alloc w _).alloc _
  have HCells:W2.cell? ⟨w.heap.size,0,none⟩=some (Value.int .i64 k)∧W2.cell? ⟨w.heap.size,1,none⟩=some (Value.int .i64 a)∧W2.cell? ⟨w.heap.size,2,none⟩=some (Value.int .i64 c)∧W2.cell? ⟨w.heap.size,3,none⟩=some (Value.int .i64 z)∧W2.cell? ⟨w.heap.size,4,none⟩=some (Value.bool wd)∧W2.cell? ⟨w.heap.size,5,none⟩=some (Value.bool sh)∧W2.cell? ⟨w.heap.size,6,none⟩=some (Value.int .i64 d)∧W2.cell? ⟨w.heap.size,7,none⟩=some (Value.int .i64 s)∧W2.cell? ⟨w.heap.size,8,none⟩=some (Value.int .i32 dp)∧W2.cell? ⟨w.heap.size,9,none⟩=some (Value.int .i32 rl)∧W2.cell? ⟨w.heap.size,10,none⟩=some (Value.int .i64 im)∧W2.cell? ⟨w.heap.size+1,0,none⟩=some (Value.string (bA' op))∧W2.cell? ⟨w.heap.size+1,1,none⟩=some (Value.int .i64 6)∧W2.cell? ⟨w.heap.size+1,2,none⟩=some (Value.int .i64 dg)∧W2.cell? ⟨w.heap.size+1,3,none⟩=some (Value.int .i64 al)∧W2.cell? ⟨w.heap.size+1,4,none⟩=some (Value.int .i64 mm)∧W2.cell? ⟨w.heap.size+1,5,none⟩=some (Value.bool fw)∧W2.cell? ⟨w.heap.size+1,6,none⟩=some (Value.bool fn):=by
   have e1:CellsAt W2 w.heap.size 0 [Value.int .i64 k,Value.int .i64 a,Value.int .i64 c,Value.int .i64 z,Value.bool wd,Value.bool sh,Value.int .i64 d,Value.int .i64 s,Value.int .i32 dp,Value.int .i32 rl,Value.int .i64 im]:=by rw [hW2];exact ((Fr.refl No _).alloc _).cells (CellsAt.new w _ _) id
   have e2:CellsAt W2 (w.heap.size+1) 0 [Value.string (bA' op),Value.int .i64 6,Value.int .i64 dg,Value.int .i64 al,Value.int .i64 mm,Value.bool fw,Value.bool fn]:=by rw [hW2,←size_alloc];exact CellsAt.new _ _ _
   exact ⟨e1 0 _ rfl,e1 1 _ rfl,e1 2 _ rfl,e1 3 _ rfl,e1 4 _ rfl,e1 5 _ rfl,e1 6 _ rfl,e1 7 _ rfl,e1 8 _ rfl,e1 9 _ rfl,e1 10 _ rfl,e2 0 _ rfl,e2 1 _ rfl,e2 2 _ rfl,e2 3 _ rfl,e2 4 _ rfl,e2 5 _ rfl,e2 6 _ rfl⟩
  rw [←hW2]
  clear hW2
  have HK:Hid (∀W,Hid (Fr No W2 W)→(W.cell? ⟨w.heap.size,0,none⟩=some (Value.int .i64 k)∧W.cell? ⟨w.heap.size,1,none⟩=some (Value.int .i64 a)∧W.cell? ⟨w.heap.size,2,none⟩=some (Value.int .i64 c)∧W.cell? ⟨w.heap.size,3,none⟩=some (Value.int .i64 z)∧W.cell? ⟨w.heap.size,4,none⟩=some (Value.bool wd)∧W.cell? ⟨w.heap.size,5,none⟩=some (Value.bool sh)∧W.cell? ⟨w.heap.size,6,none⟩=some (Value.int .i64 d)∧W.cell? ⟨w.heap.size,7,none⟩=some (Value.int .i64 s)∧W.cell? ⟨w.heap.size,8,none⟩=some (Value.int .i32 dp)∧W.cell? ⟨w.heap.size,9,none⟩=some (Value.int .i32 rl)∧W.cell? ⟨w.heap.size,10,none⟩=some (Value.int .i64 im)∧W.cell? ⟨w.heap.size+1,0,none⟩=some (Value.string (bA' op))∧W.cell? ⟨w.heap.size+1,1,none⟩=some (Value.int .i64 6)∧W.cell? ⟨w.heap.size+1,2,none⟩=some (Value.int .i64 dg)∧W.cell? ⟨w.heap.size+1,3,none⟩=some (Value.int .i64 al)∧W.cell? ⟨w.heap.size+1,4,none⟩=some (Value.int .i64 mm)∧W.cell? ⟨w.heap.size+1,5,none⟩=some (Value.bool fw)∧W.cell? ⟨w.heap.size+1,6,none⟩=some (Value.bool fn))∧Hid (Fr No W2 W)):=fun W hW=>by
   obtain ⟨q0,q1,q2,q3,q4,q5,q6,q7,q8,q9,q10,q11,q12,q13,q14,q15,q16,q17⟩:=HCells
   exact ⟨⟨hW.out.cell q0 id,hW.out.cell q1 id,hW.out.cell q2 id,hW.out.cell q3 id,hW.out.cell q4 id,hW.out.cell q5 id,hW.out.cell q6 id,hW.out.cell q7 id,hW.out.cell q8 id,hW.out.cell q9 id,hW.out.cell q10 id,hW.out.cell q11 id,hW.out.cell q12 id,hW.out.cell q13 id,hW.out.cell q14 id,hW.out.cell q15 id,hW.out.cell q16 id,hW.out.cell q17 id⟩,hW⟩
  obtain ⟨q0,q1,q2,q3,q4,q5,q6,q7,q8,q9,q10,q11,q12,q13,q14,q15,q16,q17⟩:=HCells
  clear HK
  go_quiet (fail)
  have HFX:Hid (Fr No W2 (W2.drewN nq)):=(Fr.refl _ _).drewN _
  obtain ⟨W4,hW4⟩:∃W4,W4=W2.drewN nq:=⟨_,rfl⟩
  rw [←hW4] at HFX ⊢
  have r8:=HFX.out.cell q8 id
  have R8:Hid (∀W,Fr No W4 W→W.cell? ⟨w.heap.size,8,none⟩=some (Value.int .i32 dp)):=fun W hf=>hf.cell r8 id
  clear hW4
  go_wp2_with (first
   |(go_at_call 140;(with_reducible refine (HM.out _).mono ?_);rintro e w3 ⟨rfl,hf3⟩;have r8':=R8.out _ hf3)
   |(go_at_call 23;(with_reducible refine (HB.out _).mono ?_);rintro e w5 ⟨rfl,hf5⟩))
  go_ret3
  exact ⟨by first|rfl|simp [opsV],((HF2.out.trans HFX.out).trans hf3).trans hf5⟩
 ·rw [if_neg h4,List.append_nil]
  have h4':((d:Int)%8==4)=false:=by rw [beq_eq_false_iff_ne];exact h4
  simp only [opsV]
  simp only [XI.agg,FI.agg]
  go_enter func104,ntmps104
  go_upto_region 17 with fail
  obtain ⟨W2,hW2⟩:∃W2,W2=((w.alloc (Obj.cells #[Value.int .i64 k,Value.int .i64 a,Value.int .i64 c,Value.int .i64 z,Value.bool wd,Value.bool sh,Value.int .i64 d,Value.int .i64 s,Value.int .i32 dp,Value.int .i32 rl,Value.int .i64 im] 48)).alloc (Obj.cells #[Value.string (bA' op),Value.int .i64 6,Value.int .i64 dg,Value.int .i64 al,Value.int .i64 mm,Value.bool fw,Value.bool fn] 202)):=⟨_,rfl⟩
  have HF2:Hid (Fr No w W2):=by rw [hW2];exact (fr_alloc w _).alloc _
  have HCells:W2.cell? ⟨w.heap.size,0,none⟩=some (Value.int .i64 k)∧W2.cell? ⟨w.heap.size,1,none⟩=some (Value.int .i64 a)∧W2.cell? ⟨w.heap.size,2,none⟩=some (Value.int .i64 c)∧W2.cell? ⟨w.heap.size,3,none⟩=some (Value.int .i64 z)∧W2.cell? ⟨w.heap.size,4,none⟩=some (Value.bool wd)∧W2.cell? ⟨w.heap.size,5,none⟩=some (Value.bool sh)∧W2.cell? ⟨w.heap.size,6,none⟩=some (Value.int .i64 d)∧W2.cell? ⟨w.heap.size,7,none⟩=some (Value.int .i64 s)∧W2.cell? ⟨w.heap.size,8,none⟩=some (Value.int .i32 dp)∧W2.cell? ⟨w.heap.size,9,none⟩=some (Value.int .i32 rl)∧W2.cell? ⟨w.heap.size,10,none⟩=some (Value.int .i64 im)∧W2.cell? ⟨w.heap.size+1,0,none⟩=some (Value.string (bA' op))∧W2.cell? ⟨w.heap.size+1,1,none⟩=some (Value.int .i64 6)∧W2.cell? ⟨w.heap.size+1,2,none⟩=some (Value.int .i64 dg)∧W2.cell? ⟨w.heap.size+1,3,none⟩=some (Value.int .i64 al)∧W2.cell? ⟨w.heap.size+1,4,none⟩=some (Value.int .i64 mm)∧W2.cell? ⟨w.heap.size+1,5,none⟩=some (Value.bool fw)∧W2.cell? ⟨w.heap.size+1,6,none⟩=some (Value.bool fn):=by
   have e1:CellsAt W2 w.heap.size 0 [Value.int .i64 k,Value.int .i64 a,Value.int .i64 c,Value.int .i64 z,Value.bool wd,Value.bool sh,Value.int .i64 d,Value.int .i64 s,Value.int .i32 dp,Value.int .i32 rl,Value.int .i64 im]:=by rw [hW2];exact ((Fr.refl No _).alloc _).cells (CellsAt.new w _ _) id
   have e2:CellsAt W2 (w.heap.size+1) 0 [Value.string (bA' op),Value.int .i64 6,Value.int .i64 dg,Value.int .i64 al,Value.int .i64 mm,Value.bool fw,Value.bool fn]:=by rw [hW2,←size_alloc];exact CellsAt.new _ _ _
   exact ⟨e1 0 _ rfl,e1 1 _ rfl,e1 2 _ rfl,e1 3 _ rfl,e1 4 _ rfl,e1 5 _ rfl,e1 6 _ rfl,e1 7 _ rfl,e1 8 _ rfl,e1 9 _ rfl,e1 10 _ rfl,e2 0 _ rfl,e2 1 _ rfl,e2 2 _ rfl,e2 3 _ rfl,e2 4 _ rfl,e2 5 _ rfl,e2 6 _ rfl⟩
  rw [←hW2]
  clear hW2
  have HK:Hid (∀W,Hid (Fr No W2 W)→(W.cell? ⟨w.heap.size,0,none⟩=some (Value.int .i64 k)∧W.cell? ⟨w.heap.size,1,none⟩=some (Value.int .i64 a)∧W.cell? ⟨w.heap.size,2,none⟩=some (Value.int .i64 c)∧W.cell? ⟨w.heap.size,3,none⟩=some (Value.int .i64 z)∧W.cell? ⟨w.heap.size,4,none⟩=some (Value.bool wd)∧W.cell? ⟨w.heap.size,5,none⟩=some (Value.bool sh)∧W.cell? ⟨w.heap.size,6,none⟩=some (Value.int .i64 d)∧W.cell? ⟨w.heap.size,7,none⟩=some (Value.int .i64 s)∧W.cell? ⟨w.heap.size,8,none⟩=some (Value.int .i32 dp)∧W.cell? ⟨w.heap.size,9,none⟩=some (Value.int .i32 rl)∧W.cell? ⟨w.heap.size,10,none⟩=some (Value.int .i64 im)∧W.cell? ⟨w.heap.size+1,0,none⟩=some (Value.string (bA' op))∧W.cell? ⟨w.heap.size+1,1,none⟩=some (Value.int .i64 6)∧W.cell? ⟨w.heap.size+1,2,none⟩=some (Value.int .i64 dg)∧W.cell? ⟨w.heap.size+1,3,none⟩=some (Value.int .i64 al)∧W.cell? ⟨w.heap.size+1,4,none⟩=some (Value.int .i64 mm)∧W.cell? ⟨w.heap.size+1,5,none⟩=some (Value.bool fw)∧W.cell? ⟨w.heap.size+1,6,none⟩=some (Value.bool fn))∧Hid (Fr No W2 W)):=fun W hW=>by
   obtain ⟨q0,q1,q2,q3,q4,q5,q6,q7,q8,q9,q10,q11,q12,q13,q14,q15,q16,q17⟩:=HCells
   exact ⟨⟨hW.out.cell q0 id,hW.out.cell q1 id,hW.out.cell q2 id,hW.out.cell q3 id,hW.out.cell q4 id,hW.out.cell q5 id,hW.out.cell q6 id,hW.out.cell q7 id,hW.out.cell q8 id,hW.out.cell q9 id,hW.out.cell q10 id,hW.out.cell q11 id,hW.out.cell q12 id,hW.out.cell q13 id,hW.out.cell q14 id,hW.out.cell q15 id,hW.out.cell q16 id,hW.out.cell q17 id⟩,hW⟩
  obtain ⟨q0,q1,q2,q3,q4,q5,q6,q7,q8,q9,q10,q11,q12,q13,q14,q15,q16,q17⟩:=HCells
  clear HK
  go_quiet (fail)
  have HFX:Hid (Fr No W2 (W2.drewN nq)):=(Fr.refl _ _).drewN _
  obtain ⟨W4,hW4⟩:∃W4,W4=W2.drewN nq:=⟨_,rfl⟩
  rw [←hW4] at HFX ⊢
  have r8:=HFX.out.cell q8 id
  have R8:Hid (∀W,Fr No W4 W→W.cell? ⟨w.heap.size,8,none⟩=some (Value.int .i32 dp)):=fun W hf=>hf.cell r8 id
  clear hW4
  go_wp2_with (first
   |(go_at_call 140;(with_reducible refine (HM.out _).mono ?_);rintro e w3 ⟨rfl,hf3⟩;have r8':=R8.out _ hf3)
   |(go_at_call 23;(with_reducible refine (HB.out _).mono ?_);rintro e w5 ⟨rfl,hf5⟩))
  go_ret3
  exact ⟨by first|rfl|simp [opsV],((HF2.out.trans HFX.out).trans hf3).trans hf5⟩
end Go.Proofs.YtfmcmfiebehhiaaGreatDoor

