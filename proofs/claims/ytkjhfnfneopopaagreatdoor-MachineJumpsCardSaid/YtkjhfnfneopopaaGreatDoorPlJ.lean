/- What MachineJumps' code comes to, plain. -/
import Derived.Test.YtkjhfnfneopopaaGreatDoorPlC
set_option linter.all false
set_option linter.unusedVariables false
set_option linter.unusedSimpArgs false
namespace Go.Proofs.YtkjhfnfneopopaaGreatDoor
open Go.RowKit
def immX(im:Int):XI:=⟨2,0,0,0,true,false,0,0,0,0,im⟩
def cmpX:XI:=⟨4,7,0,0,true,false,1,2,0,0,0⟩
def jccX(cc:Int)(sh:Bool):XI:=⟨16,0,cc,0,false,sh,0,0,0,7,0⟩
def jumpL(cc:Int)(sh:Bool)(a b:Nat):List XI:= [absX 1 (sg a),absX 2 (sg b),immX 1,cmpX,jccX cc sh,immX 0,retX]
theorem imm_good:gdB (immX 0)=true∧gdB (immX 1)=true∧gdB cmpX=true∧encB (immX 0)= [72,199,192,0,0,0,0]:=by decide+kernel
theorem jcc_good:∀cc∈condsL,∀sh:Bool,gdB (jccX cc sh)=true:=by decide+kernel
def cmpT(cc:Int)(a b:Nat):Bool:=takenM cc (flagsM ST.zero 7 true a b (doM (doesM 7) true a b))
theorem exec_cmp(s:ST):execM cmpX s= .ok (flagsM s 7 true (s.reg 1) (s.reg 2) (doM (doesM 7) true (s.reg 1) (s.reg 2))):=by
 have hv:validM cmpX=true:=by decide+kernel
 unfold execM
 rw [if_neg (by rw [hv];simp)]
 rfl
theorem taken_flags(cc:Int)(s:ST)(a b r:Nat):takenM cc (flagsM s 7 true a b r)=takenM cc (flagsM ST.zero 7 true a b r):=rfl
theorem step_exec{ds:List MapD}{W:HW}{x:XI}{next:Nat}{s:ST}(hv:validM x=true)(hk:x.kind=2∨x.kind=4):stepM ds W x next s=(execM x {s with pc:=next},W):=by
 unfold stepM
 rw [if_neg (by rw [hv];simp)]
 dsimp only
 rw [if_neg (by omega),if_neg (by omega),if_neg (by omega),if_neg (by omega),if_neg (by omega),if_neg (by omega),if_neg (by omega),if_neg (by omega)]
theorem exec_imm{im:Int}{s:ST}(hv:validM (immX im)=true):execM (immX im) s= .ok (s.set 0 (doM 0xb0 true 0 (u64I im))):=by
 unfold execM
 rw [if_neg (by rw [hv];simp)]
 rfl
theorem step_jcc{ds:List MapD}{W:HW}{cc:Int}{sh:Bool}{next:Nat}{s:ST}(hv:validM (jccX cc sh)=true):stepM ds W (jccX cc sh) next s=(.ok (if takenM cc s then {s with pc:=farM next 7} else {s with pc:=next}),W):=by
 unfold stepM
 rw [if_neg (by rw [hv];simp)]
 simp only [jccX]
 simp only [Int.reduceEq,↓reduceIte,or_self,or_false,false_or,or_true,true_or]
 rfl
theorem reg_setp{s:ST}{p:Nat}(h:s.r.length=16){i:Nat}(hi:i<16)(v k:Nat):(ST.set {s with pc:=p} i v).reg k=if k=i then v else s.reg k:=reg_set (s:={s with pc:=p}) h hi v k
section
variable {cc:Int} (hc:cc∈condsL) (sh:Bool) {a b:Nat} (ha:a<18446744073709551616) (hb:b<18446744073709551616)
include hc ha hb
theorem jump_good:∀x∈jumpL cc sh a b,validM x=true∧GoodI x∧(encB x).length≤10:=by
 intro x hx
 simp only [jumpL,List.mem_cons,List.not_mem_nil,or_false] at hx
 rcases hx with rfl|rfl|rfl|rfl|rfl|rfl|rfl
 ·exact abs_ok (.inl rfl) (sg_ok ha).1
 ·exact abs_ok (.inr (.inl rfl)) (sg_ok hb).1
 ·exact gdB_is imm_good.2.1
 ·exact gdB_is imm_good.2.2.1
 ·exact gdB_is (jcc_good _ hc sh)
 ·exact gdB_is imm_good.1
 ·exact gdB_is ret_good
theorem jump_len:((jumpL cc sh a b).flatMap encB).length≤1000000:=by
 have h:=flat_le (jumpL cc sh a b) fun x hx=>(jump_good hc sh ha hb x hx).2.2
 have:(jumpL cc sh a b).length=7:=rfl
 omega
theorem jump_one{i:Nat}{x:XI}{W V:HW}{s t:ST}(n k:Nat)(hx:(jumpL cc sh a b)[i]? =some x)(hp:s.pc=atC (jumpL cc sh a b) i)(hs:stepM [] W x (atC (jumpL cc sh a b) (i+1)) s=(.ok t,V)):
  runL [] ((jumpL cc sh a b).flatMap encB) (n+1) k W s=runL [] ((jumpL cc sh a b).flatMap encB) n (k+1) V t:=
 run_one hx (jump_good hc sh ha hb x (List.mem_of_getElem? hx)).2.1 (jump_len hc sh ha hb) hp hs
theorem jump_end{L:List Nat}(l16:L.length=16)(halt:L.getD 15 0=10485760){s:ST}(r16:s.r.length=16)(h4:s.reg 4=262264)(hp:s.pc=atC (jumpL cc sh a b) 6)(n k:Nat):
  ∃t V,runL [] ((jumpL cc sh a b).flatMap encB) (n+1) k ⟨[], [],memN L⟩ s=(.ok (k+1,t),V)∧t.reg 0=s.reg 0:=by
 have hst:=step_ret (ds:= []) (D:= []) (S:= []) (next:=atC (jumpL cc sh a b) 7) (q:=15) (s:=s) l16 h4 (by decide) (by rw [halt];decide)
 have h16:({s with pc:=atC (jumpL cc sh a b) 7}:ST).r.length=16:=r16
 refine ⟨_,_,(jump_one hc sh ha hb n k rfl hp hst).trans (halt_run halt),?_⟩
 show ST.reg (ST.set {s with pc:=atC (jumpL cc sh a b) 7} 4 (262144+8*(15+1))) 0=_
 rw [reg_set h16 (by decide),if_neg (by decide)]
 rfl
theorem jump_run:∃s,(runM [] ((jumpL cc sh a b).flatMap encB) 10 (startW [])).1= .ok (if cmpT cc a b then 6 else 7,s)∧s.reg 0=if cmpT cc a b then 1 else 0:=by
 have g:=jump_good hc sh ha hb
 have e0:beginM (startW [])=(.ok {ST.zero with r:=ST.zero.r.set 4 262264,pc:=4194304},⟨[], [],memN ((List.replicate 16 0).set 15 10485760)⟩):=by unfold startW;rw [memN_start];exact begin_N [] [] _ rfl
 have lL:((List.replicate 16 0).set 15 10485760:List Nat).length=16:=rfl
 have hL:((List.replicate 16 0).set 15 10485760:List Nat).getD 15 0=10485760:=rfl
 generalize ((List.replicate 16 0).set 15 10485760:List Nat)=L at*
 obtain ⟨s0,hs0⟩:∃s,({ST.zero with r:=ST.zero.r.set 4 262264,pc:=4194304}:ST)=s:=⟨_,rfl⟩
 have r0:s0.r.length=16:=by rw [←hs0];rfl
 have p0:s0.pc=atC (jumpL cc sh a b) 0:=by rw [←hs0];unfold atC;simp
 have q0:s0.reg 4=262264:=by rw [←hs0];rfl
 rw [hs0] at e0
 clear hs0
 have E1:=jump_one hc sh ha hb (W:=⟨[], [],memN L⟩) 9 0 rfl p0 (step_abs (g _ (by simp [jumpL])).1 (sg_ok ha).2)
 obtain ⟨s1,hs1⟩:∃s,(ST.set {s0 with pc:=atC (jumpL cc sh a b) 1} 1 a)=s:=⟨_,rfl⟩
 have r1:s1.r.length=16:=by rw [←hs1,set_len];exact r0
 have p1:s1.pc=atC (jumpL cc sh a b) 1:=by rw [←hs1];rfl
 have q1:s1.reg 4=262264∧s1.reg 1=a:=by
  rw [←hs1]
  exact ⟨by rw [reg_setp r0 (by decide),if_neg (by decide)];exact q0,by rw [reg_setp r0 (by decide),if_pos rfl]⟩
 rw [show ST.set {s0 with pc:=atC (jumpL cc sh a b) (0+1)} (Int.toNat 1) a=s1 from hs1] at E1
 clear hs1
 have E2:=jump_one hc sh ha hb (W:=⟨[], [],memN L⟩) 8 1 rfl p1 (step_abs (g _ (by simp [jumpL])).1 (sg_ok hb).2)
 obtain ⟨s2,hs2⟩:∃s,(ST.set {s1 with pc:=atC (jumpL cc sh a b) 2} 2 b)=s:=⟨_,rfl⟩
 have r2:s2.r.length=16:=by rw [←hs2,set_len];exact r1
 have p2:s2.pc=atC (jumpL cc sh a b) 2:=by rw [←hs2];rfl
 have q2:s2.reg 4=262264∧s2.reg 1=a∧s2.reg 2=b:=by
  rw [←hs2]
  exact ⟨by rw [reg_setp r1 (by decide),if_neg (by decide)];exact q1.1,by rw [reg_setp r1 (by decide),if_neg (by decide)];exact q1.2,by rw [reg_setp r1 (by decide),if_pos rfl]⟩
 rw [show ST.set {s1 with pc:=atC (jumpL cc sh a b) (1+1)} (Int.toNat 2) b=s2 from hs2] at E2
 clear hs2
 have v3:=(g (immX 1) (by simp [jumpL])).1
 have E3:=jump_one hc sh ha hb (W:=⟨[], [],memN L⟩) 7 2 rfl p2 ((step_exec v3 (.inl rfl)).trans (by rw [exec_imm v3]))
 obtain ⟨s3,hs3⟩:∃s,(ST.set {s2 with pc:=atC (jumpL cc sh a b) 3} 0 1)=s:=⟨_,rfl⟩
 have r3:s3.r.length=16:=by rw [←hs3,set_len];exact r2
 have p3:s3.pc=atC (jumpL cc sh a b) 3:=by rw [←hs3];rfl
 have q3:s3.reg 4=262264∧s3.reg 1=a∧s3.reg 2=b∧s3.reg 0=1:=by
  rw [←hs3]
  exact ⟨by rw [reg_setp r2 (by decide),if_neg (by decide)];exact q2.1,by rw [reg_setp r2 (by decide),if_neg (by decide)];exact q2.2.1,by rw [reg_setp r2 (by decide),if_neg (by decide)];exact q2.2.2,by rw [reg_setp r2 (by decide),if_pos rfl]⟩
 rw [show ST.set {s2 with pc:=atC (jumpL cc sh a b) (2+1)} 0 (doM 0xb0 true 0 (u64I 1))=s3 from hs3] at E3
 clear hs3
 have v4:=(g cmpX (by simp [jumpL])).1
 have E4:=jump_one hc sh ha hb (W:=⟨[], [],memN L⟩) 6 3 rfl p3 ((step_exec v4 (.inr rfl)).trans (by rw [exec_cmp]))
 have c1:ST.reg {s3 with pc:=atC (jumpL cc sh a b) (3+1)} 1=a:=q3.2.1
 have c2:ST.reg {s3 with pc:=atC (jumpL cc sh a b) (3+1)} 2=b:=q3.2.2.1
 rw [c1,c2] at E4
 obtain ⟨s4,hs4⟩:∃s,flagsM {s3 with pc:=atC (jumpL cc sh a b) (3+1)} 7 true a b (doM (doesM 7) true a b)=s:=⟨_,rfl⟩
 have t4:takenM cc s4=cmpT cc a b:=by rw [←hs4];exact taken_flags cc _ _ _ _
 have r4:s4.r.length=16:=by rw [←hs4];exact r3
 have p4:s4.pc=atC (jumpL cc sh a b) 4:=by rw [←hs4];rfl
 have q4:s4.reg 4=262264∧s4.reg 0=1:=by rw [←hs4];exact ⟨q3.1,q3.2.2.2⟩
 rw [hs4] at E4
 clear hs4
 have v5:=(g (jccX cc sh) (by simp [jumpL])).1
 have E5:=jump_one hc sh ha hb (W:=⟨[], [],memN L⟩) 5 4 rfl p4 (step_jcc v5)
 rw [t4] at E5
 have far:farM (atC (jumpL cc sh a b) (4+1)) 7=atC (jumpL cc sh a b) 6:=by
  have h1:=atC_succ (xs:=jumpL cc sh a b) (i:=5) (x:=immX 0) rfl
  have h2:=jump_len hc sh ha hb
  have h3:=flat_at (xs:=jumpL cc sh a b) (i:=5) (x:=immX 0) rfl
  have h4:(((jumpL cc sh a b).take 5).flatMap encB).length≤((jumpL cc sh a b).flatMap encB).length:=by rw [h3,List.length_append];omega
  rw [imm_good.2.2.2] at h1
  rw [show atC (jumpL cc sh a b) 6=atC (jumpL cc sh a b) 5+7 from h1]
  have h5:atC (jumpL cc sh a b) 5=4194304+(((jumpL cc sh a b).take 5).flatMap encB).length:=rfl
  show farM (atC (jumpL cc sh a b) 5) 7=_
  unfold farM
  omega
 rw [far] at E5
 have EB:runM [] ((jumpL cc sh a b).flatMap encB) 10 (startW [])=runL [] ((jumpL cc sh a b).flatMap encB) (9+1) 0 ⟨[], [],memN L⟩ s0:=by
  unfold runM
  rw [e0]
  rfl
 rw [EB,E1,E2,E3,E4,E5]
 cases cmpT cc a b with
 |true=>
  simp only [if_true]
  obtain ⟨t,V,h1,h2⟩:=jump_end hc sh ha hb lL hL (s:={s4 with pc:=atC (jumpL cc sh a b) 6}) r4 q4.1 rfl 4 5
  exact ⟨t,by rw [h1],h2.trans q4.2⟩
 |false=>
  simp only [Bool.false_eq_true,if_false]
  have v6:=(g (immX 0) (by simp [jumpL])).1
  have E6:=jump_one hc sh ha hb (W:=⟨[], [],memN L⟩) (s:={s4 with pc:=atC (jumpL cc sh a b) (4+1)}) 4 5 rfl rfl ((step_exec v6 (.inl rfl)).trans (by rw [exec_imm v6]))
  rw [E6]
  have h16:({s4 with pc:=atC (jumpL cc sh a b) (5+1)}:ST).r.length=16:=r4
  obtain ⟨t,V,h1,h2⟩:=jump_end hc sh ha hb lL hL (s:=ST.set {s4 with pc:=atC (jumpL cc sh a b) (5+1)} 0 (doM 0xb0 true 0 (u64I 0))) (by rw [set_len];exact h16) (by rw [reg_set h16 (by decide),if_neg (by decide)];exact q4.1) rfl 3 6
  exact ⟨t,by rw [show ({({s4 with pc:=atC (jumpL cc sh a b) (4+1)}:ST) with pc:=atC (jumpL cc sh a b) (5+1)}:ST)={s4 with pc:=atC (jumpL cc sh a b) (5+1)} from rfl,h1],h2.trans (by rw [reg_set h16 (by decide),if_pos rfl];rfl)⟩
end
end Go.Proofs.YtkjhfnfneopopaaGreatDoor
