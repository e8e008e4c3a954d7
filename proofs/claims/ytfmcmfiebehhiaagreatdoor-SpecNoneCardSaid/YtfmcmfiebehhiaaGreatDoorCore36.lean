/- firewallref11.Encode, plain: its bytes are encodeM's, a kind an equation. (printed by mkrenc.py) firewallref11.Encode: its parts, each with its length and what tells it. -/
import Derived.Test.YtfmcmfiebehhiaaGreatDoorCore31
import Derived.Test.YtfmcmfiebehhiaaGreatDoorCore35
import Derived.Test.YtfmcmfiebehhiaaGreatDoorCore20
set_option linter.all false
set_option linter.unusedVariables false
set_option linter.unusedSimpArgs false
namespace Go.Proofs.YtfmcmfiebehhiaaGreatDoor
open Go.Proofs.Tryz
open Go.RowKit
theorem rexM_R(x:XI)(m f:Nat)(b:Bool)(h:b=(decide (x.kind=14)&&decide (x.size=1))):rexM x (m:Int) (f:Int)=rexR x.wide m f b:=by
 unfold rexM rexR
 obtain ⟨n,hn⟩:∃n:Nat,n=(if x.wide=true then 8 else 0):=⟨_,rfl⟩
 have hn2:(if x.wide=true then (8:Int) else 0)=(n:Int):=by rw [hn];split<;>rfl
 simp only
 rw [hn2,←hn]
 have e:64+4*((m:Int)/8)+(f:Int)/8+(n:Int)=((64+m/8*4+f/8+n:Nat):Int):=by omega
 rw [e]
 have hc:(((64+m/8*4+f/8+n:Nat):Int)=64∧¬(x.kind=14∧x.size=1))↔(64+m/8*4+f/8+n=64∧b=false):=by
  rw [h]
  constructor
  ·rintro ⟨h1,h2⟩
   refine ⟨by omega,?_⟩
   rw [Bool.eq_false_iff]
   simpa using h2
  ·rintro ⟨h1,h2⟩
   refine ⟨by omega,?_⟩
   simpa using h2
 by_cases hq:64+m/8*4+f/8+n=64∧b=false
 ·rw [if_pos hq,if_pos (hc.2 hq)]
 ·rw [if_neg hq,if_neg (fun q=>hq (hc.1 q))]
theorem rexM_R0(x:XI)(f:Nat)(b:Bool)(h:b=(decide (x.kind=14)&&decide (x.size=1))):rexM x 0 (f:Int)=rexR x.wide 0 f b:=rexM_R x 0 f b h
theorem rexM_none(x:XI)(hk:x.kind≠14)(hw:x.wide=false):rexM x 0 0= []:=by
 have:=rexM_R x 0 0 false (by simp [hk])
 rw [show ((0:Nat):Int)=0 from rfl] at this
 rw [this,hw]
 rfl
theorem modrm3(m f:Nat):modrmM 3 (m:Int) (f:Int)=pairR m f:=by
 unfold modrmM pairR
 congr 2
 omega
theorem modrm3c(m f:Nat)(q:Int)(h:q=(m:Int)):modrmM 3 q (f:Int)=pairR m f:=by rw [h];exact modrm3 m f
theorem modrm2(m f:Nat)(disp:Int):modrmM 2 (m:Int) (f:Int)++(if (f:Int)%8=4 then [0x24] else [])++bytesI disp 4=memR m f disp:=by
 unfold modrmM memR
 have e:64*2+8*((m:Int)%8)+(f:Int)%8=((128+m%8*8+f%8:Nat):Int):=by omega
 rw [e]
 by_cases h:f%8=4
 ·rw [if_pos h,if_pos (by omega)]
 ·rw [if_neg h,if_neg (by omega)]
theorem byteC:byteM 137=137∧byteM 133=133∧byteM 15=15∧byteM 175=175∧byteM 129=129∧byteM 199=199∧byteM 247=247∧byteM 193=193∧byteM 211=211∧byteM 182=182∧byteM 183=183∧byteM 139=139∧byteM 102=102∧byteM 136=136∧byteM 195=195∧byteM 174=174∧byteM 232=232∧byteM 235=235∧byteM 233=233:=by decide
theorem renc_1(d s:Nat)(wd:Bool)(h:validM ⟨1,0,0,0,wd,false,(d:Int),(s:Int),0,0,0⟩=true):encodeM ⟨1,0,0,0,wd,false,(d:Int),(s:Int),0,0,0⟩=some (rexR wd s d false++ [byteM 137]++pairR s d):=by
 rw [enc_open h]
 have hf:formM 1=formsL.getD 1 FI.none:=rfl
 simp only [formsL,List.getD_cons_zero,List.getD_cons_succ] at hf
 simp only [hf,operandsM,opcodeM,bytesI_zero]
 have r1:rexM ⟨1,0,0,0,wd,false,(d:Int),(s:Int),0,0,0⟩ (s:Int) (d:Int)=rexR wd s d false:=rexM_R _ _ _ _ (by rfl)
 skip
 simp [r1,modrm3,relR,byteC]
theorem renc_2(d:Nat)(im:Int)(h:validM ⟨2,0,0,0,true,false,(d:Int),0,0,0,im⟩=true):encodeM ⟨2,0,0,0,true,false,(d:Int),0,0,0,im⟩=some (rexR true 0 d false++ [byteM 199]++pairR 0 d++bytesI im 4):=by
 rw [enc_open h]
 have hf:formM 2=formsL.getD 2 FI.none:=rfl
 simp only [formsL,List.getD_cons_zero,List.getD_cons_succ] at hf
 simp only [hf,operandsM,opcodeM,bytesI_zero]
 have r1:rexM ⟨2,0,0,0,true,false,(d:Int),0,0,0,im⟩ 0 (d:Int)=rexR true 0 d false:=rexM_R0 _ d false (by rfl)
 have m3:modrmM 3 0 (d:Int)=pairR 0 d:=modrm3c 0 d _ rfl
 simp [r1,m3,modrm3,byteC]
theorem renc_3(d:Nat)(im:Int)(h:validM ⟨3,0,0,0,true,false,(d:Int),0,0,0,im⟩=true):encodeM ⟨3,0,0,0,true,false,(d:Int),0,0,0,im⟩=some (rexR true 0 d false++ [byteM (184+(d:Int)%8)]++bytesI im 8):=by
 rw [enc_open h]
 have hf:formM 3=formsL.getD 3 FI.none:=rfl
 simp only [formsL,List.getD_cons_zero,List.getD_cons_succ] at hf
 simp only [hf,operandsM,opcodeM,bytesI_zero]
 have r1:rexM ⟨3,0,0,0,true,false,(d:Int),0,0,0,im⟩ 0 (d:Int)=rexR true 0 d false:=rexM_R0 _ d false (by rfl)
 skip
 simp [r1,modrm3,relR,byteC]
theorem renc_4(a d s:Nat)(wd:Bool)(h:validM ⟨4,(a:Int),0,0,wd,false,(d:Int),(s:Int),0,0,0⟩=true):encodeM ⟨4,(a:Int),0,0,wd,false,(d:Int),(s:Int),0,0,0⟩=some (rexR wd s d false++ [byteM (8*(a:Int)+1)]++pairR s d):=by
 rw [enc_open h]
 have hf:formM 4=formsL.getD 4 FI.none:=rfl
 simp only [formsL,List.getD_cons_zero,List.getD_cons_succ] at hf
 simp only [hf,operandsM,opcodeM,bytesI_zero]
 have r1:rexM ⟨4,(a:Int),0,0,wd,false,(d:Int),(s:Int),0,0,0⟩ (s:Int) (d:Int)=rexR wd s d false:=rexM_R _ _ _ _ (by rfl)
 skip
 simp [r1,modrm3,relR,byteC]
theorem renc_5(a d:Nat)(im:Int)(wd:Bool)(h:validM ⟨5,(a:Int),0,0,wd,false,(d:Int),0,0,0,im⟩=true):encodeM ⟨5,(a:Int),0,0,wd,false,(d:Int),0,0,0,im⟩=some (rexR wd 0 d false++ [byteM 129]++pairR a d++bytesI im 4):=by
 rw [enc_open h]
 have hf:formM 5=formsL.getD 5 FI.none:=rfl
 simp only [formsL,List.getD_cons_zero,List.getD_cons_succ] at hf
 simp only [hf,operandsM,opcodeM,bytesI_zero]
 have r1:rexM ⟨5,(a:Int),0,0,wd,false,(d:Int),0,0,0,im⟩ 0 (d:Int)=rexR wd 0 d false:=rexM_R0 _ d false (by rfl)
 have m3:modrmM 3 (a:Int) (d:Int)=pairR a d:=modrm3c a d _ rfl
 simp [r1,m3,modrm3,byteC]
theorem renc_6(d s:Nat)(wd:Bool)(h:validM ⟨6,0,0,0,wd,false,(d:Int),(s:Int),0,0,0⟩=true):encodeM ⟨6,0,0,0,wd,false,(d:Int),(s:Int),0,0,0⟩=some (rexR wd s d false++ [byteM 133]++pairR s d):=by
 rw [enc_open h]
 have hf:formM 6=formsL.getD 6 FI.none:=rfl
 simp only [formsL,List.getD_cons_zero,List.getD_cons_succ] at hf
 simp only [hf,operandsM,opcodeM,bytesI_zero]
 have r1:rexM ⟨6,0,0,0,wd,false,(d:Int),(s:Int),0,0,0⟩ (s:Int) (d:Int)=rexR wd s d false:=rexM_R _ _ _ _ (by rfl)
 skip
 simp [r1,modrm3,relR,byteC]
theorem renc_7(d:Nat)(wd:Bool)(h:validM ⟨7,0,0,0,wd,false,(d:Int),0,0,0,0⟩=true):encodeM ⟨7,0,0,0,wd,false,(d:Int),0,0,0,0⟩=some (rexR wd 0 d false++ [byteM 247]++pairR 3 d):=by
 rw [enc_open h]
 have hf:formM 7=formsL.getD 7 FI.none:=rfl
 simp only [formsL,List.getD_cons_zero,List.getD_cons_succ] at hf
 simp only [hf,operandsM,opcodeM,bytesI_zero]
 have r1:rexM ⟨7,0,0,0,wd,false,(d:Int),0,0,0,0⟩ 0 (d:Int)=rexR wd 0 d false:=rexM_R0 _ d false (by rfl)
 have m3:modrmM 3 3 (d:Int)=pairR 3 d:=modrm3c 3 d _ rfl
 simp [r1,m3,modrm3,byteC]
theorem renc_8(d:Nat)(wd:Bool)(h:validM ⟨8,0,0,0,wd,false,(d:Int),0,0,0,0⟩=true):encodeM ⟨8,0,0,0,wd,false,(d:Int),0,0,0,0⟩=some (rexR wd 0 d false++ [byteM 247]++pairR 4 d):=by
 rw [enc_open h]
 have hf:formM 8=formsL.getD 8 FI.none:=rfl
 simp only [formsL,List.getD_cons_zero,List.getD_cons_succ] at hf
 simp only [hf,operandsM,opcodeM,bytesI_zero]
 have r1:rexM ⟨8,0,0,0,wd,false,(d:Int),0,0,0,0⟩ 0 (d:Int)=rexR wd 0 d false:=rexM_R0 _ d false (by rfl)
 have m3:modrmM 3 4 (d:Int)=pairR 4 d:=modrm3c 4 d _ rfl
 simp [r1,m3,modrm3,byteC]
theorem renc_9(d:Nat)(wd:Bool)(h:validM ⟨9,0,0,0,wd,false,(d:Int),0,0,0,0⟩=true):encodeM ⟨9,0,0,0,wd,false,(d:Int),0,0,0,0⟩=some (rexR wd 0 d false++ [byteM 247]++pairR 6 d):=by
 rw [enc_open h]
 have hf:formM 9=formsL.getD 9 FI.none:=rfl
 simp only [formsL,List.getD_cons_zero,List.getD_cons_succ] at hf
 simp only [hf,operandsM,opcodeM,bytesI_zero]
 have r1:rexM ⟨9,0,0,0,wd,false,(d:Int),0,0,0,0⟩ 0 (d:Int)=rexR wd 0 d false:=rexM_R0 _ d false (by rfl)
 have m3:modrmM 3 6 (d:Int)=pairR 6 d:=modrm3c 6 d _ rfl
 simp [r1,m3,modrm3,byteC]
theorem renc_10(d s:Nat)(wd:Bool)(h:validM ⟨10,0,0,0,wd,false,(d:Int),(s:Int),0,0,0⟩=true):encodeM ⟨10,0,0,0,wd,false,(d:Int),(s:Int),0,0,0⟩=some (rexR wd d s false++ [byteM 15,byteM 175]++pairR d s):=by
 rw [enc_open h]
 have hf:formM 10=formsL.getD 10 FI.none:=rfl
 simp only [formsL,List.getD_cons_zero,List.getD_cons_succ] at hf
 simp only [hf,operandsM,opcodeM,bytesI_zero]
 have r1:rexM ⟨10,0,0,0,wd,false,(d:Int),(s:Int),0,0,0⟩ (d:Int) (s:Int)=rexR wd d s false:=rexM_R _ _ _ _ (by rfl)
 skip
 simp [r1,modrm3,relR,byteC]
theorem renc_11(a d:Nat)(im:Int)(wd:Bool)(h:validM ⟨11,(a:Int),0,0,wd,false,(d:Int),0,0,0,im⟩=true):encodeM ⟨11,(a:Int),0,0,wd,false,(d:Int),0,0,0,im⟩=some (rexR wd 0 d false++ [byteM 193]++pairR a d++bytesI im 1):=by
 rw [enc_open h]
 have hf:formM 11=formsL.getD 11 FI.none:=rfl
 simp only [formsL,List.getD_cons_zero,List.getD_cons_succ] at hf
 simp only [hf,operandsM,opcodeM,bytesI_zero]
 have r1:rexM ⟨11,(a:Int),0,0,wd,false,(d:Int),0,0,0,im⟩ 0 (d:Int)=rexR wd 0 d false:=rexM_R0 _ d false (by rfl)
 have m3:modrmM 3 (a:Int) (d:Int)=pairR a d:=modrm3c a d _ rfl
 simp [r1,m3,modrm3,byteC]
theorem renc_12(a d:Nat)(wd:Bool)(h:validM ⟨12,(a:Int),0,0,wd,false,(d:Int),0,0,0,0⟩=true):encodeM ⟨12,(a:Int),0,0,wd,false,(d:Int),0,0,0,0⟩=some (rexR wd 0 d false++ [byteM 211]++pairR a d):=by
 rw [enc_open h]
 have hf:formM 12=formsL.getD 12 FI.none:=rfl
 simp only [formsL,List.getD_cons_zero,List.getD_cons_succ] at hf
 simp only [hf,operandsM,opcodeM,bytesI_zero]
 have r1:rexM ⟨12,(a:Int),0,0,wd,false,(d:Int),0,0,0,0⟩ 0 (d:Int)=rexR wd 0 d false:=rexM_R0 _ d false (by rfl)
 have m3:modrmM 3 (a:Int) (d:Int)=pairR a d:=modrm3c a d _ rfl
 simp [r1,m3,modrm3,byteC]
theorem renc_13_1(d s:Nat)(dp:Int)(h:validM ⟨13,0,0,1,false,false,(d:Int),(s:Int),dp,0,0⟩=true):encodeM ⟨13,0,0,1,false,false,(d:Int),(s:Int),dp,0,0⟩=some (rexR false d s false++ [byteM 15,byteM 182]++memR d s dp):=by
 rw [enc_open h]
 have hf:formM 13=formsL.getD 13 FI.none:=rfl
 simp only [formsL,List.getD_cons_zero,List.getD_cons_succ] at hf
 simp only [hf,operandsM,opcodeM,bytesI_zero]
 have r1:rexM ⟨13,0,0,1,false,false,(d:Int),(s:Int),dp,0,0⟩ (d:Int) (s:Int)=rexR false d s false:=rexM_R _ _ _ _ (by rfl)
 have m2:=modrm2 d s dp
 simp [r1,m2,loadsM,storesM,byteC,←List.append_assoc]
theorem renc_13_2(d s:Nat)(dp:Int)(h:validM ⟨13,0,0,2,false,false,(d:Int),(s:Int),dp,0,0⟩=true):encodeM ⟨13,0,0,2,false,false,(d:Int),(s:Int),dp,0,0⟩=some (rexR false d s false++ [byteM 15,byteM 183]++memR d s dp):=by
 rw [enc_open h]
 have hf:formM 13=formsL.getD 13 FI.none:=rfl
 simp only [formsL,List.getD_cons_zero,List.getD_cons_succ] at hf
 simp only [hf,operandsM,opcodeM,bytesI_zero]
 have r1:rexM ⟨13,0,0,2,false,false,(d:Int),(s:Int),dp,0,0⟩ (d:Int) (s:Int)=rexR false d s false:=rexM_R _ _ _ _ (by rfl)
 have m2:=modrm2 d s dp
 simp [r1,m2,loadsM,storesM,byteC,←List.append_assoc]
theorem renc_13_4(d s:Nat)(dp:Int)(h:validM ⟨13,0,0,4,false,false,(d:Int),(s:Int),dp,0,0⟩=true):encodeM ⟨13,0,0,4,false,false,(d:Int),(s:Int),dp,0,0⟩=some (rexR false d s false++ [byteM 139]++memR d s dp):=by
 rw [enc_open h]
 have hf:formM 13=formsL.getD 13 FI.none:=rfl
 simp only [formsL,List.getD_cons_zero,List.getD_cons_succ] at hf
 simp only [hf,operandsM,opcodeM,bytesI_zero]
 have r1:rexM ⟨13,0,0,4,false,false,(d:Int),(s:Int),dp,0,0⟩ (d:Int) (s:Int)=rexR false d s false:=rexM_R _ _ _ _ (by rfl)
 have m2:=modrm2 d s dp
 simp [r1,m2,loadsM,storesM,byteC,←List.append_assoc]
theorem renc_13_8(d s:Nat)(dp:Int)(h:validM ⟨13,0,0,8,true,false,(d:Int),(s:Int),dp,0,0⟩=true):encodeM ⟨13,0,0,8,true,false,(d:Int),(s:Int),dp,0,0⟩=some (rexR true d s false++ [byteM 139]++memR d s dp):=by
 rw [enc_open h]
 have hf:formM 13=formsL.getD 13 FI.none:=rfl
 simp only [formsL,List.getD_cons_zero,List.getD_cons_succ] at hf
 simp only [hf,operandsM,opcodeM,bytesI_zero]
 have r1:rexM ⟨13,0,0,8,true,false,(d:Int),(s:Int),dp,0,0⟩ (d:Int) (s:Int)=rexR true d s false:=rexM_R _ _ _ _ (by rfl)
 have m2:=modrm2 d s dp
 simp [r1,m2,loadsM,storesM,byteC,←List.append_assoc]
theorem renc_14_1(d s:Nat)(dp:Int)(h:validM ⟨14,0,0,1,false,false,(d:Int),(s:Int),dp,0,0⟩=true):encodeM ⟨14,0,0,1,false,false,(d:Int),(s:Int),dp,0,0⟩=some ([]++rexR false s d true++ [byteM 136]++memR s d dp):=by
 rw [enc_open h]
 have hf:formM 14=formsL.getD 14 FI.none:=rfl
 simp only [formsL,List.getD_cons_zero,List.getD_cons_succ] at hf
 simp only [hf,operandsM,opcodeM,bytesI_zero]
 have r1:rexM ⟨14,0,0,1,false,false,(d:Int),(s:Int),dp,0,0⟩ (s:Int) (d:Int)=rexR false s d true:=rexM_R _ _ _ _ (by rfl)
 have m2:=modrm2 s d dp
 simp [r1,m2,loadsM,storesM,byteC,←List.append_assoc]
theorem renc_14_2(d s:Nat)(dp:Int)(h:validM ⟨14,0,0,2,false,false,(d:Int),(s:Int),dp,0,0⟩=true):encodeM ⟨14,0,0,2,false,false,(d:Int),(s:Int),dp,0,0⟩=some ([byteM 102]++rexR false s d false++ [byteM 137]++memR s d dp):=by
 rw [enc_open h]
 have hf:formM 14=formsL.getD 14 FI.none:=rfl
 simp only [formsL,List.getD_cons_zero,List.getD_cons_succ] at hf
 simp only [hf,operandsM,opcodeM,bytesI_zero]
 have r1:rexM ⟨14,0,0,2,false,false,(d:Int),(s:Int),dp,0,0⟩ (s:Int) (d:Int)=rexR false s d false:=rexM_R _ _ _ _ (by rfl)
 have m2:=modrm2 s d dp
 simp [r1,m2,loadsM,storesM,byteC,←List.append_assoc]
theorem renc_14_4(d s:Nat)(dp:Int)(h:validM ⟨14,0,0,4,false,false,(d:Int),(s:Int),dp,0,0⟩=true):encodeM ⟨14,0,0,4,false,false,(d:Int),(s:Int),dp,0,0⟩=some ([]++rexR false s d false++ [byteM 137]++memR s d dp):=by
 rw [enc_open h]
 have hf:formM 14=formsL.getD 14 FI.none:=rfl
 simp only [formsL,List.getD_cons_zero,List.getD_cons_succ] at hf
 simp only [hf,operandsM,opcodeM,bytesI_zero]
 have r1:rexM ⟨14,0,0,4,false,false,(d:Int),(s:Int),dp,0,0⟩ (s:Int) (d:Int)=rexR false s d false:=rexM_R _ _ _ _ (by rfl)
 have m2:=modrm2 s d dp
 simp [r1,m2,loadsM,storesM,byteC,←List.append_assoc]
theorem renc_14_8(d s:Nat)(dp:Int)(h:validM ⟨14,0,0,8,true,false,(d:Int),(s:Int),dp,0,0⟩=true):encodeM ⟨14,0,0,8,true,false,(d:Int),(s:Int),dp,0,0⟩=some ([]++rexR true s d false++ [byteM 137]++memR s d dp):=by
 rw [enc_open h]
 have hf:formM 14=formsL.getD 14 FI.none:=rfl
 simp only [formsL,List.getD_cons_zero,List.getD_cons_succ] at hf
 simp only [hf,operandsM,opcodeM,bytesI_zero]
 have r1:rexM ⟨14,0,0,8,true,false,(d:Int),(s:Int),dp,0,0⟩ (s:Int) (d:Int)=rexR true s d false:=rexM_R _ _ _ _ (by rfl)
 have m2:=modrm2 s d dp
 simp [r1,m2,loadsM,storesM,byteC,←List.append_assoc]
theorem renc_15(rl sh)(h:validM ⟨15,0,0,0,false,sh,0,0,0,rl,0⟩=true):encodeM ⟨15,0,0,0,false,sh,0,0,0,rl,0⟩=some (relR ⟨15,0,0,0,false,sh,0,0,0,rl,0⟩ [byteM 235] [byteM 233]):=by
 rw [enc_open h]
 have hf:formM 15=formsL.getD 15 FI.none:=rfl
 simp only [formsL,List.getD_cons_zero,List.getD_cons_succ] at hf
 simp only [hf,operandsM,opcodeM,bytesI_zero]
 have r1:rexM ⟨15,0,0,0,false,sh,0,0,0,rl,0⟩ 0 0= []:=rexM_none _ (by simp) rfl
 skip
 cases sh<;>simp [r1,relR,byteC]
theorem renc_16(c rl sh)(h:validM ⟨16,0,c,0,false,sh,0,0,0,rl,0⟩=true):encodeM ⟨16,0,c,0,false,sh,0,0,0,rl,0⟩=some (relR ⟨16,0,c,0,false,sh,0,0,0,rl,0⟩ [byteM (112+c)] [byteM 15,byteM (128+c)]):=by
 rw [enc_open h]
 have hf:formM 16=formsL.getD 16 FI.none:=rfl
 simp only [formsL,List.getD_cons_zero,List.getD_cons_succ] at hf
 simp only [hf,operandsM,opcodeM,bytesI_zero]
 have r1:rexM ⟨16,0,c,0,false,sh,0,0,0,rl,0⟩ 0 0= []:=rexM_none _ (by simp) rfl
 skip
 cases sh<;>simp [r1,relR,byteC]
theorem renc_17(d:Nat)(h:validM ⟨17,0,0,0,false,false,(d:Int),0,0,0,0⟩=true):encodeM ⟨17,0,0,0,false,false,(d:Int),0,0,0,0⟩=some (rexR false 0 d false++ [byteM (80+(d:Int)%8)]):=by
 rw [enc_open h]
 have hf:formM 17=formsL.getD 17 FI.none:=rfl
 simp only [formsL,List.getD_cons_zero,List.getD_cons_succ] at hf
 simp only [hf,operandsM,opcodeM,bytesI_zero]
 have r1:rexM ⟨17,0,0,0,false,false,(d:Int),0,0,0,0⟩ 0 (d:Int)=rexR false 0 d false:=rexM_R0 _ d false (by rfl)
 skip
 simp [r1,modrm3,relR,byteC]
theorem renc_18(d:Nat)(h:validM ⟨18,0,0,0,false,false,(d:Int),0,0,0,0⟩=true):encodeM ⟨18,0,0,0,false,false,(d:Int),0,0,0,0⟩=some (rexR false 0 d false++ [byteM (88+(d:Int)%8)]):=by
 rw [enc_open h]
 have hf:formM 18=formsL.getD 18 FI.none:=rfl
 simp only [formsL,List.getD_cons_zero,List.getD_cons_succ] at hf
 simp only [hf,operandsM,opcodeM,bytesI_zero]
 have r1:rexM ⟨18,0,0,0,false,false,(d:Int),0,0,0,0⟩ 0 (d:Int)=rexR false 0 d false:=rexM_R0 _ d false (by rfl)
 skip
 simp [r1,modrm3,relR,byteC]
theorem renc_19(h:validM ⟨19,0,0,0,false,false,0,0,0,0,0⟩=true):encodeM ⟨19,0,0,0,false,false,0,0,0,0,0⟩=some ([byteM 195]):=by
 rw [enc_open h]
 have hf:formM 19=formsL.getD 19 FI.none:=rfl
 simp only [formsL,List.getD_cons_zero,List.getD_cons_succ] at hf
 simp only [hf,operandsM,opcodeM,bytesI_zero]
 have r1:rexM ⟨19,0,0,0,false,false,0,0,0,0,0⟩ 0 0= []:=rexM_none _ (by simp) rfl
 skip
 simp [r1,modrm3,relR,byteC]
theorem renc_20(rl)(h:validM ⟨20,0,0,0,false,false,0,0,0,rl,0⟩=true):encodeM ⟨20,0,0,0,false,false,0,0,0,rl,0⟩=some (relR ⟨20,0,0,0,false,false,0,0,0,rl,0⟩ [] [byteM 232]):=by
 rw [enc_open h]
 have hf:formM 20=formsL.getD 20 FI.none:=rfl
 simp only [formsL,List.getD_cons_zero,List.getD_cons_succ] at hf
 simp only [hf,operandsM,opcodeM,bytesI_zero]
 have r1:rexM ⟨20,0,0,0,false,false,0,0,0,rl,0⟩ 0 0= []:=rexM_none _ (by simp) rfl
 skip
 simp [r1,modrm3,relR,byteC]
theorem renc_21(h:validM ⟨21,0,0,0,false,false,0,0,0,0,0⟩=true):encodeM ⟨21,0,0,0,false,false,0,0,0,0,0⟩=some ([byteM 15,byteM 174,byteM 232]):=by
 rw [enc_open h]
 have hf:formM 21=formsL.getD 21 FI.none:=rfl
 simp only [formsL,List.getD_cons_zero,List.getD_cons_succ] at hf
 simp only [hf,operandsM,opcodeM,bytesI_zero]
 have r1:rexM ⟨21,0,0,0,false,false,0,0,0,0,0⟩ 0 0= []:=rexM_none _ (by simp) rfl
 skip
 simp [r1,modrm3,relR,byteC]
end Go.Proofs.YtfmcmfiebehhiaaGreatDoor
namespace Go.Proofs.YtfmcmfiebehhiaaGreatDoor
open Go.Proofs.Tryz
open Go.RowKit
abbrev Tells1(f:FuncId)(vs:Array Value)(P:List UInt8):Prop:=∀W,Calls prog f vs W fun e w'=>e= .returned (.string (bA' P))∧Fr No W w'
theorem rex_pk(w r m b)(hr:r<16)(hm:m<16):∃P,P=rexR w r m b∧P.length≤10∧Tells1 46 #[.bool w, .int .i64 r, .int .i64 m, .bool b] P:=by
 refine ⟨_,rfl,?_,fun W=>rrex_any w r m b hr hm W⟩
 unfold rexR
 by_cases h:64+r/8*4+m/8+(if w=true then 8 else 0)=64∧b=false
 ·rw [if_pos h];decide
 ·rw [if_neg h];simp
theorem pair_pk(r m)(hr:r<16)(hm:m<16):∃P,P=pairR r m∧P.length≤10∧Tells1 48 #[.int .i64 r, .int .i64 m] P:=
 ⟨_,rfl,by unfold pairR;simp,fun W=>rpair_any r m hr hm W⟩
theorem mem_pk(r m v)(hr:r<16)(hm:m<16):∃P,P=memR r m v∧P.length≤10∧Tells1 50 #[.int .i64 r, .int .i64 m, .int .i32 v] P:=by
 refine ⟨_,rfl,?_,fun W=>rmemory_any r m v hr hm W⟩
 unfold memR
 simp only [List.length_append,List.length_cons,List.length_nil,bytesI,leBytes_length]
 split<;>decide
theorem bytes_pk(v n)(hn:n≤8):∃P,P=bytesI v n∧P.length≤10∧Tells1 49 #[.int .u64 (IntKind.u64.wrap v), .int .i64 n] P:=
 ⟨_,rfl,by unfold bytesI;rw [leBytes_length];omega,fun W=>refbytes_I v n hn W⟩
theorem rel_pk(x:XI)(S L:List UInt8)(hS:S.length≤10)(hL:L.length≤10):∃P,P=relR x S L∧Tells1 51 #[x.agg, .string (bA' S), .string (bA' L)] P:=
 ⟨_,rfl,fun W=>rrel_any x S L hS hL W⟩
theorem sum_pk(A B:List UInt8){m n}(hA:A.length≤m)(hB:B.length≤n)(h:m+n≤1000:=by decide):∃S,S=A++B∧S.length≤m+n∧∀W,(Op.stringOp .add (bA' A) (bA' B)).run prog W= .ok (.string (bA' S)) W:=
 ⟨_,rfl,by rw [List.length_append];omega,addL A B (by omega) (by omega)⟩
theorem valid_regs{x:XI}(h:validM x=true):∃d s:Nat,x.dst=d∧x.src=s∧d<16∧s<16:=by
 obtain ⟨k,_,_,_,hm⟩:=valid_may h
 obtain ⟨d,s,hd,hs,e1,e2⟩:=hm.regs
 exact ⟨d,s,e1,e2,hd,hs⟩
section
variable {ops:Array Oper} {Q:Exit→Act→World→Prop} {C:List (Option Value)} {base:List (Tmp×Value)} {i:Nat} {SL:List (Nat×List Int)} {w0:World} {a0:Act}
theorem arg2_rho{x y}{a:Act}(hK:∀k∈preOf ops i,Known ops C a k)(hb:Vals a base)(hk:(rhoOk1 ops C (base.map (·.1)) i x&&rhoOk1 ops C (base.map (·.1)) i y)=true):a.eval x=rhoV ops C base x∧a.eval y=rhoV ops C base y:=by
 rw [Bool.and_eq_true] at hk
 exact ⟨rho_one hK hb hk.1,rho_one hK hb hk.2⟩
theorem qA{x y t2}{d:Option Tmp}{ty pos af}{g:Option (Nat×Bool)}{X Y Z}(ha:∀W,(Op.stringOp .add X Y).run prog W= .ok (.string Z) W)(hk:(rhoOk1 ops C (base.map (·.1)) i x&&rhoOk1 ops C (base.map (·.1)) i y)=true:=by kernel_rfl)(hc:C.getD i none=some (.string Z):=by rfl)(hx:rhoV ops C base x= .string X:=by kernel_rfl)(hy:rhoV ops C base y= .string Y:=by kernel_rfl):CalmG prog ops Q a0 w0 base C SL i ⟨d, .binOp .add 9 x y t2,ty,pos,af,g⟩:=fun a W _ _ hpre hb=>
 calm_pure (do_bin ((arg2_rho (CalmS.known hpre) hb hk).1.trans hx) ((arg2_rho (CalmS.known hpre) hb hk).2.trans hy) (by simp [go_sem,ha])) hc
theorem qI{op t x y t2}{d:Option Tmp}{ty pos af}{g:Option (Nat×Bool)}(u v){c}(hr:∀W,(do eqGuard op t x y u v;binOp op t u v:Sem Value).run prog W= .ok c W)(hk:(rhoOk1 ops C (base.map (·.1)) i x&&rhoOk1 ops C (base.map (·.1)) i y)=true:=by kernel_rfl)(hc:C.getD i none=some c:=by rfl)(hx:rhoV ops C base x=u:=by kernel_rfl)(hy:rhoV ops C base y=v:=by kernel_rfl):CalmG prog ops Q a0 w0 base C SL i ⟨d, .binOp op t x y t2,ty,pos,af,g⟩:=fun a W _ _ hpre hb=>
 calm_pure (do_bin ((arg2_rho (CalmS.known hpre) hb hk).1.trans hx) ((arg2_rho (CalmS.known hpre) hb hk).2.trans hy) (hr W)) hc
end
end Go.Proofs.YtfmcmfiebehhiaaGreatDoor

