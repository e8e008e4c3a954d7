/- package codec: modrm, rex. package codec: used, where behind is 0, 1, 3, 4. (printed by mkused.py) package codec: used, where behind is 2, 5. (printed by mkused.py) package codec: used, where behind .. -/
import Derived.Test.YtfmcmfiebehhiaaGreatDoorCore1
import Derived.Test.YtfmcmfiebehhiaaGreatDoorCore2
import Derived.BigQuiet
import Derived.BigGuardPart
import Derived.BigRegion
import Derived.Laws.Concat
import Derived.Test.YtfmcmfiebehhiaaGreatDoorRows
import Derived.ProofKit
import Derived.OpenShut
import Derived.Deep.Slices
set_option linter.all false
set_option linter.unusedVariables false
set_option linter.unusedSimpArgs false
set_option maxRecDepth 100000
set_option maxHeartbeats 4000000
namespace Go.Proofs.YtfmcmfiebehhiaaGreatDoor
open Go.Proofs.Tryz
open Go.RowKit
def bA'(l:List UInt8):ByteArray:=⟨l.toArray⟩
theorem one_B(W:World)(x):(convert 22 9 (.slice (some ⟨W.heap.size,0,none⟩) 1 1)).run prog (W.alloc (.cells #[.int .u8 (x%256)] 5))= .ok (.string (bA' [byteM x])) (W.alloc (.cells #[.int .u8 (x%256)] 5)):=
 one_byte W (x%256) (by omega) (by omega)
theorem size_alloc(w:World)(o):(w.alloc o).heap.size=w.heap.size+1:=by simp only [World.alloc,Array.size_push]
theorem one_byte1(W:World)(o)(x:Int)(h0:0≤x)(h1:x<256):(convert 22 9 (.slice (some ⟨W.heap.size+1,0,none⟩) 1 1)).run prog ((W.alloc o).alloc (.cells #[.int .u8 x] 5))= .ok (.string (bA' [UInt8.ofNat x.toNat])) ((W.alloc o).alloc (.cells #[.int .u8 x] 5)):=by
 have h:=one_byte (W.alloc o) x h0 h1
 rw [size_alloc] at h
 exact h
theorem one_B1(W:World)(o x):(convert 22 9 (.slice (some ⟨W.heap.size+1,0,none⟩) 1 1)).run prog ((W.alloc o).alloc (.cells #[.int .u8 (x%256)] 5))= .ok (.string (bA' [byteM x])) ((W.alloc o).alloc (.cells #[.int .u8 (x%256)] 5)):=
 one_byte1 W o (x%256) (by omega) (by omega)
theorem fr_alloc(w:World)(o):Fr No w (w.alloc o):=(Fr.refl _ _).alloc _
theorem or_mr:∀mode:Nat,mode<4→∀mid:Nat,mid<16→∀fin:Nat,fin<16→byteM (bits .or .i64 (bits .or .i64 ((mode:Int)*64) ((mid:Int)%8*8)) ((fin:Int)%8))=mrB mode mid fin:=by decide+kernel
theorem modrm_any(mode mid fin:Nat)(w:World)(hmo:mode<4)(hm:mid<16)(hf:fin<16):
  Calls prog 140 #[.int .i64 mode, .int .i64 mid, .int .i64 fin] w fun e w'=>e= .returned (.string (bA' [mrB mode mid fin]))∧Fr No w w':=by
 have h1:=one_B w (bits .or .i64 (bits .or .i64 ((mode:Int)*64) ((mid:Int)%8*8)) ((fin:Int)%8))
 rw [or_mr mode hmo mid hm fin hf] at h1
 go_enter func140,ntmps140
 go_wp2_with fail
 go_ret
 exact ⟨rfl,fr_alloc _ _⟩
theorem or_rex:∀mid:Nat,mid<16→∀fin:Nat,fin<16→bits .or .i64 (bits .or .i64 64 ((mid:Int)/8*4)) ((fin:Int)/8)%256=64+4*((mid:Int)/8)+(fin:Int)/8
  ∧bits .or .u8 (bits .or .i64 (bits .or .i64 64 ((mid:Int)/8*4)) ((fin:Int)/8)%256) 8=64+4*((mid:Int)/8)+(fin:Int)/8+8:=by decide+kernel
theorem rex_off{x:XI}{mid fin}(hw:x.wide=false)(h:64+4*(mid/8)+fin/8=64)(h2:¬(x.kind=14∧x.size=1)):rexM x mid fin= []:=by
 unfold rexM
 simp only [hw,Bool.false_eq_true,if_false,Int.add_zero]
 rw [if_pos ⟨h,h2⟩]
theorem rex_on{x:XI}{mid fin}(hw:x.wide=false)(h:¬(64+4*(mid/8)+fin/8=64)∨(x.kind=14∧x.size=1)):rexM x mid fin= [byteM (64+4*(mid/8)+fin/8)]:=by
 unfold rexM
 simp only [hw,Bool.false_eq_true,if_false,Int.add_zero]
 rw [if_neg (fun hc=>h.elim (fun g=>g hc.1) hc.2)]
theorem rex_wide{x:XI}{mid fin:Nat}(hw:x.wide=true):rexM x mid fin= [byteM (64+4*((mid:Int)/8)+(fin:Int)/8+8)]:=by
 unfold rexM
 simp only [hw,if_true]
 rw [if_neg (by omega)]
theorem byte_mod(x):byteM (x%256)=byteM x:=by unfold byteM;rw [Int.emod_emod_of_dvd _ (by decide)]
theorem rex_any(x:XI)(mid fin:Nat)(w:World)(hm:mid<16)(hf:fin<16):
  Calls prog 105 #[x.agg, .int .i64 mid, .int .i64 fin] w fun e w'=>e= .returned (.string (bA' (rexM x mid fin)))∧Fr No w w':=by
 obtain ⟨e1,e2⟩:=or_rex mid hm fin hf
 have r1:= @rex_off x mid fin
 have r2:= @rex_on x mid fin
 have r3:= @rex_wide x mid fin
 have b1:byteM (bits .or .i64 (bits .or .i64 64 ((mid:Int)/8*4)) ((fin:Int)/8))=byteM (64+4*((mid:Int)/8)+(fin:Int)/8):=by rw [←byte_mod,e1]
 have b2:UInt8.ofNat (bits .or .u8 (bits .or .i64 (bits .or .i64 64 ((mid:Int)/8*4)) ((fin:Int)/8)%256) 8).toNat=byteM (64+4*((mid:Int)/8)+(fin:Int)/8+8):=by rw [e2];unfold byteM;rw [Int.emod_eq_of_lt (by omega) (by omega)]
 have h1:=fun o=>one_B1 w o (bits .or .i64 (bits .or .i64 64 ((mid:Int)/8*4)) ((fin:Int)/8))
 have h2:=fun o=>one_byte1 w o (bits .or .u8 (bits .or .i64 (bits .or .i64 64 ((mid:Int)/8*4)) ((fin:Int)/8)%256) 8) (by rw [e2];omega) (by rw [e2];omega)
 simp only [b1,b2] at h1 h2
 have hne:(bits .or .u8 (bits .or .i64 (bits .or .i64 64 ((mid:Int)/8*4)) ((fin:Int)/8)%256) 8==64)=false:=by rw [e2];simp;omega
 have E1:=Lib.hid e1
 have R1:=Lib.hid r1
 have R2:=Lib.hid r2
 have R3:=Lib.hid r3
 clear r1 r2 r3 e1 e2 b1 b2
 obtain ⟨k,a,c,z,wd,sh,d,s,dp,rl,im⟩:=x
 unfold XI.agg
 simp only at*
 have fr2:∀o o':Obj,Fr No w ((w.alloc o).alloc o'):=fun o o'=>(fr_alloc w o).alloc _
 cases wd
 ·obtain ⟨q,hq⟩:∃q:Bool,(bits .or .i64 (bits .or .i64 64 ((mid:Int)/8*4)) ((fin:Int)/8)%256==64)=q:=⟨_,rfl⟩
  obtain ⟨q1,hq1⟩:∃q:Bool,(k==14)=q:=⟨_,rfl⟩
  obtain ⟨q2,hq2⟩:∃q:Bool,(z==1)=q:=⟨_,rfl⟩
  have H:Hid (((q&& !(q1&&q2))=true→rexM ⟨k,a,c,z,false,sh,d,s,dp,rl,im⟩ mid fin= [])∧((q&& !(q1&&q2))=false→rexM ⟨k,a,c,z,false,sh,d,s,dp,rl,im⟩ mid fin= [byteM (64+4*((mid:Int)/8)+(fin:Int)/8)])):=by
   rw [E1.out] at hq
   rw [←hq,←hq1,←hq2]
   refine ⟨fun h=>R1.out rfl ?_ ?_,fun h=>R2.out rfl ?_⟩
   ·simp at h;exact h.1
   ·simp at h;exact fun hc=>h.2.elim (fun g=>g hc.1) (fun g=>g hc.2)
   ·simp at h;by_cases e:(64+4*((mid:Int)/8)+(fin:Int)/8=64)
    ·exact .inr ⟨(h e).1,(h e).2⟩
    ·exact .inl e
  clear R1 R2 R3 E1
  cases q<;>cases q1<;>cases q2<;>
  ·go_enter func105,ntmps105
   go_wp2_with fail
   go_ret
   first
    |exact ⟨congrArg (fun l=>Ending.returned (Value.string (bA' l))) (H.out.1 rfl).symm,fr_alloc _ _⟩
    |exact ⟨congrArg (fun l=>Ending.returned (Value.string (bA' l))) (H.out.2 rfl).symm,fr2 _ _⟩
 ·go_enter func105,ntmps105
  go_wp2_with fail
  go_ret
  exact ⟨congrArg (fun l=>Ending.returned (Value.string (bA' l))) (R3.out trivial).symm,fr2 _ _⟩
def FI.agg(f:FI):Value:= .agg #[.string (bA' f.op), .int .i64 f.behind, .int .i64 f.digit, .int .i64 f.alu, .int .i64 f.imm, .bool f.wide, .bool f.narrow]
theorem used_0(x:XI)(f:FI)(w)(hb:f.behind=0):
  Calls prog 108 #[x.agg,f.agg] w fun e w'=>e= .returned (usedM x f).agg∧Fr No w w':=by
 obtain ⟨k,a,c,z,wd,sh,d,s,dp,rl,im⟩:=x
 obtain ⟨op,b,dg,al,mm,fw,fn⟩:=f
 simp only [XI.agg,FI.agg] at*
 obtain ⟨Q,hQ⟩:∃Q:Value,Q=(usedM ⟨k,a,c,z,wd,sh,d,s,dp,rl,im⟩ ⟨op,b,dg,al,mm,fw,fn⟩).agg:=⟨_,rfl⟩
 have HQ:=Lib.hid hQ
 unfold XI.agg at hQ
 rw [←hQ]
 clear hQ
 subst hb
 go_enter func108,ntmps108
 go_wp2_with fail
 all_goals (refine bodyPost_ret (v:=Q) (by rw [HQ.out];simp [results,results108,go_sem,usedM,XI.agg, *]<;>simp_all) rfl ⟨rfl,?_⟩)
 all_goals exact (((fr_alloc w _).alloc _).alloc _).alloc _
theorem used_1(x:XI)(f:FI)(w)(hb:f.behind=1):
  Calls prog 108 #[x.agg,f.agg] w fun e w'=>e= .returned (usedM x f).agg∧Fr No w w':=by
 obtain ⟨k,a,c,z,wd,sh,d,s,dp,rl,im⟩:=x
 obtain ⟨op,b,dg,al,mm,fw,fn⟩:=f
 simp only [XI.agg,FI.agg] at*
 obtain ⟨Q,hQ⟩:∃Q:Value,Q=(usedM ⟨k,a,c,z,wd,sh,d,s,dp,rl,im⟩ ⟨op,b,dg,al,mm,fw,fn⟩).agg:=⟨_,rfl⟩
 have HQ:=Lib.hid hQ
 unfold XI.agg at hQ
 rw [←hQ]
 clear hQ
 subst hb
 go_enter func108,ntmps108
 go_wp2_with fail
 go_region
 go_wp2_with fail
 all_goals (refine bodyPost_ret (v:=Q) (by rw [HQ.out];simp [results,results108,go_sem,usedM,XI.agg, *]<;>simp_all) rfl ⟨rfl,?_⟩)
 all_goals exact ((((fr_alloc w _).alloc _).alloc _).alloc _).drew
theorem used_3(x:XI)(f:FI)(w)(hb:f.behind=3):
  Calls prog 108 #[x.agg,f.agg] w fun e w'=>e= .returned (usedM x f).agg∧Fr No w w':=by
 obtain ⟨k,a,c,z,wd,sh,d,s,dp,rl,im⟩:=x
 obtain ⟨op,b,dg,al,mm,fw,fn⟩:=f
 simp only [XI.agg,FI.agg] at*
 obtain ⟨Q,hQ⟩:∃Q:Value,Q=(usedM ⟨k,a,c,z,wd,sh,d,s,dp,rl,im⟩ ⟨op,b,dg,al,mm,fw,fn⟩).agg:=⟨_,rfl⟩
 have HQ:=Lib.hid hQ
 unfold XI.agg at hQ
 rw [←hQ]
 clear hQ
 subst hb
 go_enter func108,ntmps108
 go_wp2_with fail
 all_goals (refine bodyPost_ret (v:=Q) (by rw [HQ.out];simp [results,results108,go_sem,usedM,XI.agg, *]<;>simp_all) rfl ⟨rfl,?_⟩)
 all_goals exact (((fr_alloc w _).alloc _).alloc _).alloc _
theorem used_4(x:XI)(f:FI)(w)(hb:f.behind=4):
  Calls prog 108 #[x.agg,f.agg] w fun e w'=>e= .returned (usedM x f).agg∧Fr No w w':=by
 obtain ⟨k,a,c,z,wd,sh,d,s,dp,rl,im⟩:=x
 obtain ⟨op,b,dg,al,mm,fw,fn⟩:=f
 simp only [XI.agg,FI.agg] at*
 obtain ⟨Q,hQ⟩:∃Q:Value,Q=(usedM ⟨k,a,c,z,wd,sh,d,s,dp,rl,im⟩ ⟨op,b,dg,al,mm,fw,fn⟩).agg:=⟨_,rfl⟩
 have HQ:=Lib.hid hQ
 unfold XI.agg at hQ
 rw [←hQ]
 clear hQ
 subst hb
 go_enter func108,ntmps108
 go_wp2_with fail
 all_goals (refine bodyPost_ret (v:=Q) (by rw [HQ.out];simp [results,results108,go_sem,usedM,XI.agg, *]<;>simp_all) rfl ⟨rfl,?_⟩)
 all_goals exact (((fr_alloc w _).alloc _).alloc _).alloc _
theorem used_2(x:XI)(f:FI)(w)(hb:f.behind=2):
  Calls prog 108 #[x.agg,f.agg] w fun e w'=>e= .returned (usedM x f).agg∧Fr No w w':=by
 obtain ⟨k,a,c,z,wd,sh,d,s,dp,rl,im⟩:=x
 obtain ⟨op,b,dg,al,mm,fw,fn⟩:=f
 simp only [XI.agg,FI.agg] at*
 obtain ⟨Q,hQ⟩:∃Q:Value,Q=(usedM ⟨k,a,c,z,wd,sh,d,s,dp,rl,im⟩ ⟨op,b,dg,al,mm,fw,fn⟩).agg:=⟨_,rfl⟩
 have HQ:=Lib.hid hQ
 unfold XI.agg at hQ
 rw [←hQ]
 clear hQ
 subst hb
 go_enter func108,ntmps108
 go_wp2_with fail
 go_region
 go_wp2_with fail
 all_goals (refine bodyPost_ret (v:=Q) (by rw [HQ.out];simp [results,results108,go_sem,usedM,XI.agg, *]<;>simp_all) rfl ⟨rfl,?_⟩)
 all_goals exact ((((fr_alloc w _).alloc _).alloc _).alloc _).drew
theorem used_5(x:XI)(f:FI)(w)(hb:f.behind=5):
  Calls prog 108 #[x.agg,f.agg] w fun e w'=>e= .returned (usedM x f).agg∧Fr No w w':=by
 obtain ⟨k,a,c,z,wd,sh,d,s,dp,rl,im⟩:=x
 obtain ⟨op,b,dg,al,mm,fw,fn⟩:=f
 simp only [XI.agg,FI.agg] at*
 obtain ⟨Q,hQ⟩:∃Q:Value,Q=(usedM ⟨k,a,c,z,wd,sh,d,s,dp,rl,im⟩ ⟨op,b,dg,al,mm,fw,fn⟩).agg:=⟨_,rfl⟩
 have HQ:=Lib.hid hQ
 unfold XI.agg at hQ
 rw [←hQ]
 clear hQ
 subst hb
 go_enter func108,ntmps108
 go_wp2_with fail
 go_region
 go_wp2_with fail
 all_goals (refine bodyPost_ret (v:=Q) (by rw [HQ.out];simp [results,results108,go_sem,usedM,XI.agg, *]<;>simp_all) rfl ⟨rfl,?_⟩)
 all_goals exact ((((fr_alloc w _).alloc _).alloc _).alloc _).drew
theorem used_6(x:XI)(f:FI)(w)(hb:f.behind=6):
  Calls prog 108 #[x.agg,f.agg] w fun e w'=>e= .returned (usedM x f).agg∧Fr No w w':=by
 obtain ⟨k,a,c,z,wd,sh,d,s,dp,rl,im⟩:=x
 obtain ⟨op,b,dg,al,mm,fw,fn⟩:=f
 simp only [XI.agg,FI.agg] at*
 obtain ⟨Q,hQ⟩:∃Q:Value,Q=(usedM ⟨k,a,c,z,wd,sh,d,s,dp,rl,im⟩ ⟨op,b,dg,al,mm,fw,fn⟩).agg:=⟨_,rfl⟩
 have HQ:=Lib.hid hQ
 unfold XI.agg at hQ
 rw [←hQ]
 clear hQ
 subst hb
 go_enter func108,ntmps108
 go_wp2_with fail
 go_region
 go_wp2_with fail
 all_goals (refine bodyPost_ret (v:=Q) (by rw [HQ.out];simp [results,results108,go_sem,usedM,XI.agg, *]<;>simp_all) rfl ⟨rfl,?_⟩)
 all_goals exact ((((fr_alloc w _).alloc _).alloc _).alloc _).drew
theorem used_7(x:XI)(f:FI)(w)(hb:f.behind=7):
  Calls prog 108 #[x.agg,f.agg] w fun e w'=>e= .returned (usedM x f).agg∧Fr No w w':=by
 obtain ⟨k,a,c,z,wd,sh,d,s,dp,rl,im⟩:=x
 obtain ⟨op,b,dg,al,mm,fw,fn⟩:=f
 simp only [XI.agg,FI.agg] at*
 obtain ⟨Q,hQ⟩:∃Q:Value,Q=(usedM ⟨k,a,c,z,wd,sh,d,s,dp,rl,im⟩ ⟨op,b,dg,al,mm,fw,fn⟩).agg:=⟨_,rfl⟩
 have HQ:=Lib.hid hQ
 unfold XI.agg at hQ
 rw [←hQ]
 clear hQ
 subst hb
 go_enter func108,ntmps108
 go_wp2_with fail
 all_goals (refine bodyPost_ret (v:=Q) (by rw [HQ.out];simp [results,results108,go_sem,usedM,XI.agg, *]<;>simp_all) rfl ⟨rfl,?_⟩)
 all_goals exact (((fr_alloc w _).alloc _).alloc _).alloc _
theorem used_any(x:XI)(f:FI)(w)(hb:f.behind≤7):
  Calls prog 108 #[x.agg,f.agg] w fun e w'=>e= .returned (usedM x f).agg∧Fr No w w':=by
 obtain h|h|h|h|h|h|h|h:f.behind=0∨f.behind=1∨f.behind=2∨f.behind=3∨f.behind=4∨f.behind=5∨f.behind=6∨f.behind=7:=by omega
 ·exact used_0 x f w h
 ·exact used_1 x f w h
 ·exact used_2 x f w h
 ·exact used_3 x f w h
 ·exact used_4 x f w h
 ·exact used_5 x f w h
 ·exact used_6 x f w h
 ·exact used_7 x f w h
theorem cnumber_any(x:XI)(f:FI)(w)(hb:f.imm=0∨f.imm=1∨f.imm=4∨f.imm=8):
  Calls prog 109 #[x.agg,f.agg] w fun e w'=>e= .returned (.bool (numberM x f))∧Fr No w w':=by
 obtain ⟨k,a,c,z,wd,sh,d,s,dp,rl,im⟩:=x
 obtain ⟨op,b,dg,al,mm,fw,fn⟩:=f
 simp only [XI.agg,FI.agg] at*
 obtain ⟨Q,hQ⟩:∃Q:Bool,Q=numberM ⟨k,a,c,z,wd,sh,d,s,dp,rl,im⟩ ⟨op,b,dg,al,mm,fw,fn⟩:=⟨_,rfl⟩
 have HQ:=Lib.hid hQ
 rw [←hQ]
 clear hQ
 rcases hb with rfl|rfl|rfl|rfl
 all_goals (go_enter func109,ntmps109;go_wp2_with fail)
 all_goals go_ret
 all_goals (refine ⟨?_,?_⟩)
 all_goals try exact (fr_alloc w _).alloc _
 all_goals (rw [HQ.out];first|(simp [numberM, *];done)|(simp [numberM, *];omega))
theorem ite_eqB{α:Type}[DecidableEq α]{a b:α}{W:World}{X:Result Value}{r:Bool}(h:X= .ok (.bool r) W):(if a=b then X else .ok (.bool false) W)= .ok (.bool ((a==b)&&r)) W:=by
 by_cases e:a=b
 ·rw [if_pos e,h];simp [e]
 ·rw [if_neg e];simp [e]
theorem XI.eqB(x y:XI):decide (x=y)=(x.kind==y.kind&&(x.alu==y.alu&&(x.cond==y.cond&&(x.size==y.size&&(x.wide==y.wide&&(x.short==y.short&&(x.dst==y.dst&&(x.src==y.src&&(x.disp==y.disp&&(x.rel==y.rel&&x.imm==y.imm)))))))))):=by
 rw [Bool.eq_iff_iff]
 cases x;cases y
 simp
theorem eq_X0(x y:XI)(w):(binOp .eql 48 x.agg y.agg).run prog w= .ok (.bool (x.kind==y.kind&&(x.alu==y.alu&&(x.cond==y.cond&&(x.size==y.size&&(x.wide==y.wide&&(x.short==y.short&&(x.dst==y.dst&&(x.src==y.src&&(x.disp==y.disp&&(x.rel==y.rel&&x.imm==y.imm))))))))))) w:=by
 have u5:=underlying3
 have a5:=isAgg3
 have z5:=sizeOf3
 have u9:=underlying4
 have a9:=isAgg4
 have z9:=sizeOf4
 have u4:=underlying21
 have a4:=isAgg21
 have z4:=sizeOf21
 have u2:=underlying2
 have a2:=isAgg2
 have z2:=sizeOf2
 have hS:prog.underlying 48=some (.struct (prog.fieldsOf 48)):=by kernel_rfl
 have hp:prog.stoodInHeld 48=false:=by kernel_rfl
 obtain ⟨k1,b1,c1,d1,e1,f1,g1,h1,i1,j1,m1⟩:=x
 obtain ⟨k2,b2,c2,d2,e2,f2,g2,h2,i2,j2,m2⟩:=y
 simp only [XI.agg]
 rw [run_eql_struct,show (10000:Nat)=9999+1 from rfl,run_equalIn_agg w 9999 _ _ _ hS hp]
 simp only [Program.fieldsOf,underlying48]
 go_simp
 refine ite_eqB (ite_eqB (ite_eqB (ite_eqB (ite_eqB (ite_eqB (ite_eqB (ite_eqB (ite_eqB (ite_eqB ?_)))))))))
 by_cases e:m1=m2<;>simp [e]
theorem eq_X(x y:XI)(w):(binOp .eql 48 x.agg y.agg).run prog w= .ok (.bool (decide (x=y))) w:=by rw [XI.eqB,eq_X0]
theorem neq_X(x y:XI)(w):(binOp .neq 48 x.agg y.agg).run prog w= .ok (.bool (!decide (x=y))) w:=by
 have h:=eq_X x y w
 have hS:prog.underlying 48=some (.struct (prog.fieldsOf 48)):=by kernel_rfl
 unfold XI.agg at*
 rw [run_eql_struct] at h
 rw [run_neq_struct]
 generalize Sem.run prog (Op.equalIn 10000 48 _ _) w=R at h ⊢
 cases R with
 |ok b W=>
  simp only [Result.andThen,Result.ok.injEq,Value.bool.injEq] at h ⊢
  exact ⟨by rw [h.1],h.2⟩
 |_=>simp [Result.andThen] at h
theorem guard_X(xs ys op x y w):(eqGuard op 48 x y (.agg xs) (.agg ys)).run prog w= .ok () w:=run_eqGuard_agg w op _ x y xs ys (by kernel_rfl)
theorem addJ(X Y:ByteArray)(hx:X.size≤200000)(hy:Y.size≤200000)(W):(Op.stringOp .add X Y).run prog W= .ok (.string (X++Y)) W:=by
 apply run_string_add
 ·omega
 ·omega
theorem sizeJ(l:List UInt8):(bA' l).size=l.length:=by simp [bA',ByteArray.size]
theorem appJ(a b):bA' a++bA' b=bA' (a++b):=by apply ByteArray.ext;simp [bA',ByteArray.data_append]
theorem addL(a b:List UInt8)(ha:a.length≤200000)(hb:b.length≤200000)(W):(Op.stringOp .add (bA' a) (bA' b)).run prog W= .ok (.string (bA' (a++b))) W:=by
 rw [←appJ];exact addJ _ _ (by rw [sizeJ];exact ha) (by rw [sizeJ];exact hb) W
def oneM(n:Int)(l:List Int):Bool:=l.contains n
def wordB(n:Int):Bool:=decide (n≥-2147483648)&&decide (n≤2147483647)
theorem loads_ne(z):¬loadsM z= []↔(z=1∨z=2∨z=4∨z=8):=by
 unfold loadsM
 by_cases h1:z=1
 ·subst h1;decide
 by_cases h2:z=2
 ·subst h2;decide
 by_cases h3:z=4∨z=8
 ·rw [if_neg h1,if_neg h2,if_pos h3];simp;omega
 ·rw [if_neg h1,if_neg h2,if_neg h3];simp;omega
def regB(n:Int):Bool:=decide (n≥0)&&decide (n<16)
theorem valid_1(a c z wd sh d r dp rl im):validM ⟨1,a,c,z,wd,sh,d,r,dp,rl,im⟩=(true&&(decide ((⟨1,a,c,z,wd,sh,d,r,dp,rl,im⟩:XI)=⟨1,0,0,0,wd,false,d,r,0,0,0⟩)&&(regB d&&regB r))):=by
 rw [Bool.eq_iff_iff]
 have hf:formM 1=formsL.getD 1 FI.none:=rfl
 simp only [formsL,List.getD_cons_zero,List.getD_cons_succ] at hf
 unfold validM
 simp only [hf,usedM,numberM,regB,wordB,oneM,XI.mk.injEq,condsL]
 simp;try (cases wd<;>cases sh<;>simp<;>omega)
theorem valid_2(a c z wd sh d r dp rl im):validM ⟨2,a,c,z,wd,sh,d,r,dp,rl,im⟩=(wordB im&&(decide ((⟨2,a,c,z,wd,sh,d,r,dp,rl,im⟩:XI)=⟨2,0,0,0,true,false,d,0,0,0,im⟩)&&(regB d&&regB r))):=by
 rw [Bool.eq_iff_iff]
 have hf:formM 2=formsL.getD 2 FI.none:=rfl
 simp only [formsL,List.getD_cons_zero,List.getD_cons_succ] at hf
 unfold validM
 simp only [hf,usedM,numberM,regB,wordB,oneM,XI.mk.injEq,condsL]
 simp;try (cases wd<;>cases sh<;>simp<;>omega)
theorem valid_3(a c z wd sh d r dp rl im):validM ⟨3,a,c,z,wd,sh,d,r,dp,rl,im⟩=(true&&(decide ((⟨3,a,c,z,wd,sh,d,r,dp,rl,im⟩:XI)=⟨3,0,0,0,true,false,d,0,0,0,im⟩)&&(regB d&&regB r))):=by
 rw [Bool.eq_iff_iff]
 have hf:formM 3=formsL.getD 3 FI.none:=rfl
 simp only [formsL,List.getD_cons_zero,List.getD_cons_succ] at hf
 unfold validM
 simp only [hf,usedM,numberM,regB,wordB,oneM,XI.mk.injEq,condsL]
 simp;try (cases wd<;>cases sh<;>simp<;>omega)
theorem valid_4(a c z wd sh d r dp rl im):validM ⟨4,a,c,z,wd,sh,d,r,dp,rl,im⟩=(oneM a [0,1,4,5,6,7]&&(decide ((⟨4,a,c,z,wd,sh,d,r,dp,rl,im⟩:XI)=⟨4,a,0,0,wd,false,d,r,0,0,0⟩)&&(regB d&&regB r))):=by
 rw [Bool.eq_iff_iff]
 have hf:formM 4=formsL.getD 4 FI.none:=rfl
 simp only [formsL,List.getD_cons_zero,List.getD_cons_succ] at hf
 unfold validM
 simp only [hf,usedM,numberM,regB,wordB,oneM,XI.mk.injEq,condsL]
 simp;try (cases wd<;>cases sh<;>simp<;>omega)
theorem valid_5(a c z wd sh d r dp rl im):validM ⟨5,a,c,z,wd,sh,d,r,dp,rl,im⟩=((oneM a [0,1,4,5,6,7]&&wordB im)&&(decide ((⟨5,a,c,z,wd,sh,d,r,dp,rl,im⟩:XI)=⟨5,a,0,0,wd,false,d,0,0,0,im⟩)&&(regB d&&regB r))):=by
 rw [Bool.eq_iff_iff]
 have hf:formM 5=formsL.getD 5 FI.none:=rfl
 simp only [formsL,List.getD_cons_zero,List.getD_cons_succ] at hf
 unfold validM
 simp only [hf,usedM,numberM,regB,wordB,oneM,XI.mk.injEq,condsL]
 simp;try (cases wd<;>cases sh<;>simp<;>omega)
theorem valid_6(a c z wd sh d r dp rl im):validM ⟨6,a,c,z,wd,sh,d,r,dp,rl,im⟩=(true&&(decide ((⟨6,a,c,z,wd,sh,d,r,dp,rl,im⟩:XI)=⟨6,0,0,0,wd,false,d,r,0,0,0⟩)&&(regB d&&regB r))):=by
 rw [Bool.eq_iff_iff]
 have hf:formM 6=formsL.getD 6 FI.none:=rfl
 simp only [formsL,List.getD_cons_zero,List.getD_cons_succ] at hf
 unfold validM
 simp only [hf,usedM,numberM,regB,wordB,oneM,XI.mk.injEq,condsL]
 simp;try (cases wd<;>cases sh<;>simp<;>omega)
theorem valid_7(a c z wd sh d r dp rl im):validM ⟨7,a,c,z,wd,sh,d,r,dp,rl,im⟩=(true&&(decide ((⟨7,a,c,z,wd,sh,d,r,dp,rl,im⟩:XI)=⟨7,0,0,0,wd,false,d,0,0,0,0⟩)&&(regB d&&regB r))):=by
 rw [Bool.eq_iff_iff]
 have hf:formM 7=formsL.getD 7 FI.none:=rfl
 simp only [formsL,List.getD_cons_zero,List.getD_cons_succ] at hf
 unfold validM
 simp only [hf,usedM,numberM,regB,wordB,oneM,XI.mk.injEq,condsL]
 simp;try (cases wd<;>cases sh<;>simp<;>omega)
theorem valid_8(a c z wd sh d r dp rl im):validM ⟨8,a,c,z,wd,sh,d,r,dp,rl,im⟩=(true&&(decide ((⟨8,a,c,z,wd,sh,d,r,dp,rl,im⟩:XI)=⟨8,0,0,0,wd,false,d,0,0,0,0⟩)&&(regB d&&regB r))):=by
 rw [Bool.eq_iff_iff]
 have hf:formM 8=formsL.getD 8 FI.none:=rfl
 simp only [formsL,List.getD_cons_zero,List.getD_cons_succ] at hf
 unfold validM
 simp only [hf,usedM,numberM,regB,wordB,oneM,XI.mk.injEq,condsL]
 simp;try (cases wd<;>cases sh<;>simp<;>omega)
theorem valid_9(a c z wd sh d r dp rl im):validM ⟨9,a,c,z,wd,sh,d,r,dp,rl,im⟩=(true&&(decide ((⟨9,a,c,z,wd,sh,d,r,dp,rl,im⟩:XI)=⟨9,0,0,0,wd,false,d,0,0,0,0⟩)&&(regB d&&regB r))):=by
 rw [Bool.eq_iff_iff]
 have hf:formM 9=formsL.getD 9 FI.none:=rfl
 simp only [formsL,List.getD_cons_zero,List.getD_cons_succ] at hf
 unfold validM
 simp only [hf,usedM,numberM,regB,wordB,oneM,XI.mk.injEq,condsL]
 simp;try (cases wd<;>cases sh<;>simp<;>omega)
theorem valid_10(a c z wd sh d r dp rl im):validM ⟨10,a,c,z,wd,sh,d,r,dp,rl,im⟩=(true&&(decide ((⟨10,a,c,z,wd,sh,d,r,dp,rl,im⟩:XI)=⟨10,0,0,0,wd,false,d,r,0,0,0⟩)&&(regB d&&regB r))):=by
 rw [Bool.eq_iff_iff]
 have hf:formM 10=formsL.getD 10 FI.none:=rfl
 simp only [formsL,List.getD_cons_zero,List.getD_cons_succ] at hf
 unfold validM
 simp only [hf,usedM,numberM,regB,wordB,oneM,XI.mk.injEq,condsL]
 simp;try (cases wd<;>cases sh<;>simp<;>omega)
theorem valid_11(a c z wd sh d r dp rl im):validM ⟨11,a,c,z,wd,sh,d,r,dp,rl,im⟩=((oneM a [4,5,7]&&(decide (im≥0)&&(decide (im<32)||(decide (im<64)&&wd))))&&(decide ((⟨11,a,c,z,wd,sh,d,r,dp,rl,im⟩:XI)=⟨11,a,0,0,wd,false,d,0,0,0,im⟩)&&(regB d&&regB r))):=by
 rw [Bool.eq_iff_iff]
 have hf:formM 11=formsL.getD 11 FI.none:=rfl
 simp only [formsL,List.getD_cons_zero,List.getD_cons_succ] at hf
 unfold validM
 simp only [hf,usedM,numberM,regB,wordB,oneM,XI.mk.injEq,condsL]
 simp;try (cases wd<;>cases sh<;>simp<;>omega)
theorem valid_12(a c z wd sh d r dp rl im):validM ⟨12,a,c,z,wd,sh,d,r,dp,rl,im⟩=(oneM a [4,5,7]&&(decide ((⟨12,a,c,z,wd,sh,d,r,dp,rl,im⟩:XI)=⟨12,a,0,0,wd,false,d,0,0,0,0⟩)&&(regB d&&regB r))):=by
 rw [Bool.eq_iff_iff]
 have hf:formM 12=formsL.getD 12 FI.none:=rfl
 simp only [formsL,List.getD_cons_zero,List.getD_cons_succ] at hf
 unfold validM
 simp only [hf,usedM,numberM,regB,wordB,oneM,XI.mk.injEq,condsL]
 simp;try (cases wd<;>cases sh<;>simp<;>omega)
theorem valid_13(a c z wd sh d r dp rl im):validM ⟨13,a,c,z,wd,sh,d,r,dp,rl,im⟩=(oneM z [1,2,4,8]&&(decide ((⟨13,a,c,z,wd,sh,d,r,dp,rl,im⟩:XI)=⟨13,0,0,z,decide (z=8),false,d,r,dp,0,0⟩)&&(regB d&&regB r))):=by
 rw [Bool.eq_iff_iff]
 have hf:formM 13=formsL.getD 13 FI.none:=rfl
 simp only [formsL,List.getD_cons_zero,List.getD_cons_succ] at hf
 unfold validM
 simp only [hf,usedM,numberM,regB,wordB,oneM,XI.mk.injEq,condsL]
 simp [loads_ne];generalize (wd=decide (z=8))=P;by_cases hp:P<;>simp only [hp,and_false,false_and,true_and,and_true]<;>cases sh<;>simp<;>omega
theorem valid_14(a c z wd sh d r dp rl im):validM ⟨14,a,c,z,wd,sh,d,r,dp,rl,im⟩=(oneM z [1,2,4,8]&&(decide ((⟨14,a,c,z,wd,sh,d,r,dp,rl,im⟩:XI)=⟨14,0,0,z,decide (z=8),false,d,r,dp,0,0⟩)&&(regB d&&regB r))):=by
 rw [Bool.eq_iff_iff]
 have hf:formM 14=formsL.getD 14 FI.none:=rfl
 simp only [formsL,List.getD_cons_zero,List.getD_cons_succ] at hf
 unfold validM
 simp only [hf,usedM,numberM,regB,wordB,oneM,XI.mk.injEq,condsL]
 simp [loads_ne];generalize (wd=decide (z=8))=P;by_cases hp:P<;>simp only [hp,and_false,false_and,true_and,and_true]<;>cases sh<;>simp<;>omega
theorem valid_15(a c z wd sh d r dp rl im):validM ⟨15,a,c,z,wd,sh,d,r,dp,rl,im⟩=((!sh||(decide (rl≥-128)&&decide (rl≤127)))&&(decide ((⟨15,a,c,z,wd,sh,d,r,dp,rl,im⟩:XI)=⟨15,0,0,0,false,sh,0,0,0,rl,0⟩)&&(regB d&&regB r))):=by
 rw [Bool.eq_iff_iff]
 have hf:formM 15=formsL.getD 15 FI.none:=rfl
 simp only [formsL,List.getD_cons_zero,List.getD_cons_succ] at hf
 unfold validM
 simp only [hf,usedM,numberM,regB,wordB,oneM,XI.mk.injEq,condsL]
 simp;try (cases wd<;>cases sh<;>simp<;>omega)
theorem valid_16(a c z wd sh d r dp rl im):validM ⟨16,a,c,z,wd,sh,d,r,dp,rl,im⟩=(((!sh||(decide (rl≥-128)&&decide (rl≤127)))&&oneM c condsL)&&(decide ((⟨16,a,c,z,wd,sh,d,r,dp,rl,im⟩:XI)=⟨16,0,c,0,false,sh,0,0,0,rl,0⟩)&&(regB d&&regB r))):=by
 rw [Bool.eq_iff_iff]
 have hf:formM 16=formsL.getD 16 FI.none:=rfl
 simp only [formsL,List.getD_cons_zero,List.getD_cons_succ] at hf
 unfold validM
 simp only [hf,usedM,numberM,regB,wordB,oneM,XI.mk.injEq,condsL]
 simp;try (cases wd<;>cases sh<;>simp<;>omega)
theorem valid_17(a c z wd sh d r dp rl im):validM ⟨17,a,c,z,wd,sh,d,r,dp,rl,im⟩=(true&&(decide ((⟨17,a,c,z,wd,sh,d,r,dp,rl,im⟩:XI)=⟨17,0,0,0,false,false,d,0,0,0,0⟩)&&(regB d&&regB r))):=by
 rw [Bool.eq_iff_iff]
 have hf:formM 17=formsL.getD 17 FI.none:=rfl
 simp only [formsL,List.getD_cons_zero,List.getD_cons_succ] at hf
 unfold validM
 simp only [hf,usedM,numberM,regB,wordB,oneM,XI.mk.injEq,condsL]
 simp;try (cases wd<;>cases sh<;>simp<;>omega)
theorem valid_18(a c z wd sh d r dp rl im):validM ⟨18,a,c,z,wd,sh,d,r,dp,rl,im⟩=(true&&(decide ((⟨18,a,c,z,wd,sh,d,r,dp,rl,im⟩:XI)=⟨18,0,0,0,false,false,d,0,0,0,0⟩)&&(regB d&&regB r))):=by
 rw [Bool.eq_iff_iff]
 have hf:formM 18=formsL.getD 18 FI.none:=rfl
 simp only [formsL,List.getD_cons_zero,List.getD_cons_succ] at hf
 unfold validM
 simp only [hf,usedM,numberM,regB,wordB,oneM,XI.mk.injEq,condsL]
 simp;try (cases wd<;>cases sh<;>simp<;>omega)
theorem valid_19(a c z wd sh d r dp rl im):validM ⟨19,a,c,z,wd,sh,d,r,dp,rl,im⟩=(true&&(decide ((⟨19,a,c,z,wd,sh,d,r,dp,rl,im⟩:XI)=⟨19,0,0,0,false,false,0,0,0,0,0⟩)&&(regB d&&regB r))):=by
 rw [Bool.eq_iff_iff]
 have hf:formM 19=formsL.getD 19 FI.none:=rfl
 simp only [formsL,List.getD_cons_zero,List.getD_cons_succ] at hf
 unfold validM
 simp only [hf,usedM,numberM,regB,wordB,oneM,XI.mk.injEq,condsL]
 simp;try (cases wd<;>cases sh<;>simp<;>omega)
theorem valid_20(a c z wd sh d r dp rl im):validM ⟨20,a,c,z,wd,sh,d,r,dp,rl,im⟩=(true&&(decide ((⟨20,a,c,z,wd,sh,d,r,dp,rl,im⟩:XI)=⟨20,0,0,0,false,false,0,0,0,rl,0⟩)&&(regB d&&regB r))):=by
 rw [Bool.eq_iff_iff]
 have hf:formM 20=formsL.getD 20 FI.none:=rfl
 simp only [formsL,List.getD_cons_zero,List.getD_cons_succ] at hf
 unfold validM
 simp only [hf,usedM,numberM,regB,wordB,oneM,XI.mk.injEq,condsL]
 simp;try (cases wd<;>cases sh<;>simp<;>omega)
theorem valid_21(a c z wd sh d r dp rl im):validM ⟨21,a,c,z,wd,sh,d,r,dp,rl,im⟩=(true&&(decide ((⟨21,a,c,z,wd,sh,d,r,dp,rl,im⟩:XI)=⟨21,0,0,0,false,false,0,0,0,0,0⟩)&&(regB d&&regB r))):=by
 rw [Bool.eq_iff_iff]
 have hf:formM 21=formsL.getD 21 FI.none:=rfl
 simp only [formsL,List.getD_cons_zero,List.getD_cons_succ] at hf
 unfold validM
 simp only [hf,usedM,numberM,regB,wordB,oneM,XI.mk.injEq,condsL]
 simp;try (cases wd<;>cases sh<;>simp<;>omega)
theorem valid_else(k a c z wd sh d r dp rl im)(h:k<1∨22≤k):validM ⟨k,a,c,z,wd,sh,d,r,dp,rl,im⟩=false:=by
 unfold validM
 rw [if_pos h]
end Go.Proofs.YtfmcmfiebehhiaaGreatDoor
namespace Go.Proofs.YtfmcmfiebehhiaaGreatDoor
open Go.Proofs.Tryz
open Go.ChangeShapes Go.WideShapes Go.ChangeAt Go.RowKit Go.Deep
end Go.Proofs.YtfmcmfiebehhiaaGreatDoor

