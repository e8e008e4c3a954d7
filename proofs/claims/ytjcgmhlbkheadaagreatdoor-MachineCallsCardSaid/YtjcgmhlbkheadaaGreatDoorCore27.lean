/- package cpu: Exec: 8 to 12, 21, the others. (printed by mkexec.py) package cpu: Exec of whatever. firewalllaw09.called. -/
import Derived.Test.YtjcgmhlbkheadaaGreatDoorCore26
import Derived.Test.YtjcgmhlbkheadaaGreatDoorCore17
set_option linter.all false
set_option linter.unusedVariables false
set_option linter.unusedSimpArgs false
set_option maxRecDepth 100000
set_option maxHeartbeats 2000000
namespace Go.Proofs.YtjcgmhlbkheadaaGreatDoor
open Go.RowKit
theorem exec_10(a c z:Int)(wd sh:Bool)(d r:Nat)(dp rl im:Int)(s:ST)(w:World)(hs:s.ok)(hm:MachAt w)(hx:(Lit.int .i64 z).wf=true)(ha:(Lit.int .i64 a).wf=true)(hd:d<16)(hr:r<16)(hv:validM ⟨10,a,c,z,wd,sh,d,r,dp,rl,im⟩=true):
  Calls Tryz.prog 38 #[(XI.mk 10 a c z wd sh d r dp rl im).agg,s.agg] w fun e w'=>e= .returned (exV (execM ⟨10,a,c,z,wd,sh,d,r,dp,rl,im⟩ s))∧Fr No w w':=by
 have HV:Hid (∀W,Fr No w W→Calls Tryz.prog 33 #[(XI.mk 10 a c z wd sh d r dp rl im).agg] W fun e w'=>e= .returned (.bool true)∧Fr No W w'):=fun W hW=>by rw [←hv];exact valid_any _ hx W (hm.fr hW)
 have HE0:Hid (∀t1 t2 t3,_):=ESt.start (w:=w) (x:=⟨10,a,c,z,wd,sh,d,r,dp,rl,im⟩) hs
 have HM:=Lib.hid hm
 obtain ⟨A,hA⟩:∃A,s.reg d=A:=⟨_,rfl⟩
 obtain ⟨B,hB⟩:∃B,s.reg r=B:=⟨_,rfl⟩
 have hAl:A<18446744073709551616:=by rw [←hA];exact hs.reg d
 have hBl:B<18446744073709551616:=by rw [←hB];exact hs.reg r
 have hUl:u64I im<18446744073709551616:=u64I_lt im
 have hw:=u64I_wrap im
 have HQ:Hid (execM ⟨10,a,c,z,wd,sh,d,r,dp,rl,im⟩ s= .ok (s.set d (doM 0xb0 wd 0 (doM 0x20 wd A B)))):=by
  subst hA
  subst hB
  unfold execM
  rw [if_neg (by rw [hv];simp)]
  exact Lib.hid rfl
 rw [HQ.out]
 clear hm hv
 generalize u64I im=U at*
 have HD:Hid (∀W,Calls Tryz.prog 69 #[.int .u8 32, .bool wd, .int .u64 A, .int .u64 B] W fun e w'=>e= .returned (.int .u64 (doM 0x20 wd A B))∧W=w'):=fun W=>Do_any 0x20 wd A B (by decide) hAl hBl W
 have hlt:doM 0x20 wd A B<18446744073709551616:=doM_u64 _ _ _ _
 generalize doM 0x20 wd A B=V at*
 have d1:(0:Int)≤(d:Int):=by omega
 have d2:(d:Int)<16:=by omega
 have r1:(0:Int)≤(r:Int):=by omega
 have r2:(r:Int)<16:=by omega
 simp only [XI.agg,ST.agg,exV] at*
 go_enter Tryz.func38,Tryz.ntmps38
 go_upto_region 1 with fail
 refine wp_world (fun W1=>Hid (ESt w w.heap.size ⟨10,a,c,z,wd,sh,d,r,dp,rl,im⟩ s W1)) (by exact HE0.out _ _ _) ?_
 intro W1 HL
 clear HE0
 obtain ⟨c0,c1,c2,c3,c4,c5,c6,c7,c8,c9,c10⟩:=XI.at HL.out.x
 go_upto_region 3 with (go_at_call 33;(with_reducible refine (HV.out _ HL.out.fr).mono ?_);rintro e w2 ⟨rfl,hf2⟩;replace HL:=Lib.hid (HL.out.no hf2);clear hf2)
 clear c0 c1 c2 c3 c4 c5 c6 c7 c8 c9 c10
 obtain ⟨c0,c1,c2,c3,c4,c5,c6,c7,c8,c9,c10⟩:=XI.at HL.out.x
 have rd:=HL.out.st.reg hd
 have rr:=HL.out.st.reg hr
 rw [hA] at rd
 rw [hB] at rr
 go_quiet (fail)
 have HLn:=Lib.hid (HL.out.no ((Fr.refl _ _).drewN nq))
 clear HL c0 c1 c2 c3 c4 c5 c6 c7 c8 c9 c10 rd rr
 have HL:=HLn
 clear HLn
 obtain ⟨W3,hW3⟩:∃W3,W3=w2.drewN nq:=⟨_,rfl⟩
 rw [←hW3] at HL ⊢
 clear hW3
 obtain ⟨c0,c1,c2,c3,c4,c5,c6,c7,c8,c9,c10⟩:=XI.at HL.out.x
 go_wp2_with (first
  |(go_at_call 69;(with_reducible refine (HD.out _).mono ?_);rintro e w5 ⟨rfl,rfl⟩)
  |(go_at_call 68;(with_reducible refine (HL.out.mov rfl hd hlt).mono ?_);rintro e w3 ⟨rfl,HL⟩)
  |(refine HL.out.st.load rfl (.tmp 3) rfl rfl ?_)
  |(refine HL.out.answer HL.out.st.ok rfl (.tmp 4) (.tmp 163) rfl rfl rfl ?_;intro W9 HS9 HF9)
)
 exact bodyPost_ret (results_st2 Tryz.results38 _ _ _ _ HS9.out rfl) rfl ⟨rfl,HF9.out⟩
theorem exec_11(a c z:Int)(wd sh:Bool)(d r:Nat)(dp rl im:Int)(s:ST)(w:World)(hs:s.ok)(hm:MachAt w)(hx:(Lit.int .i64 z).wf=true)(ha:(Lit.int .i64 a).wf=true)(hd:d<16)(hr:r<16)(hv:validM ⟨11,a,c,z,wd,sh,d,r,dp,rl,im⟩=true):
  Calls Tryz.prog 38 #[(XI.mk 11 a c z wd sh d r dp rl im).agg,s.agg] w fun e w'=>e= .returned (exV (execM ⟨11,a,c,z,wd,sh,d,r,dp,rl,im⟩ s))∧Fr No w w':=by
 have HV:Hid (∀W,Fr No w W→Calls Tryz.prog 33 #[(XI.mk 11 a c z wd sh d r dp rl im).agg] W fun e w'=>e= .returned (.bool true)∧Fr No W w'):=fun W hW=>by rw [←hv];exact valid_any _ hx W (hm.fr hW)
 have HE0:Hid (∀t1 t2 t3,_):=ESt.start (w:=w) (x:=⟨11,a,c,z,wd,sh,d,r,dp,rl,im⟩) hs
 have HM:=Lib.hid hm
 obtain ⟨A,hA⟩:∃A,s.reg d=A:=⟨_,rfl⟩
 obtain ⟨B,hB⟩:∃B,s.reg r=B:=⟨_,rfl⟩
 have hAl:A<18446744073709551616:=by rw [←hA];exact hs.reg d
 have hBl:B<18446744073709551616:=by rw [←hB];exact hs.reg r
 have hUl:u64I im<18446744073709551616:=u64I_lt im
 have hw:=u64I_wrap im
 have hsm:shiftsM a∈opsL:=shifts_mem a
 have HQ:Hid (execM ⟨11,a,c,z,wd,sh,d,r,dp,rl,im⟩ s= .ok (s.set d (doM 0xb0 wd 0 (doM (shiftsM a) wd A (u64I im))))):=by
  subst hA
  subst hB
  unfold execM
  rw [if_neg (by rw [hv];simp)]
  exact Lib.hid rfl
 rw [HQ.out]
 clear hm hv
 generalize u64I im=U at*
 have HD:Hid (∀W,Calls Tryz.prog 69 #[.int .u8 (shiftsM a), .bool wd, .int .u64 A, .int .u64 U] W fun e w'=>e= .returned (.int .u64 (doM (shiftsM a) wd A U))∧W=w'):=fun W=>Do_any (shiftsM a) wd A U hsm hAl hUl W
 have hlt:doM (shiftsM a) wd A U<18446744073709551616:=doM_u64 _ _ _ _
 generalize doM (shiftsM a) wd A U=V at*
 have d1:(0:Int)≤(d:Int):=by omega
 have d2:(d:Int)<16:=by omega
 have r1:(0:Int)≤(r:Int):=by omega
 have r2:(r:Int)<16:=by omega
 simp only [XI.agg,ST.agg,exV] at*
 go_enter Tryz.func38,Tryz.ntmps38
 go_upto_region 1 with fail
 refine wp_world (fun W1=>Hid (ESt w w.heap.size ⟨11,a,c,z,wd,sh,d,r,dp,rl,im⟩ s W1)) (by exact HE0.out _ _ _) ?_
 intro W1 HL
 clear HE0
 obtain ⟨c0,c1,c2,c3,c4,c5,c6,c7,c8,c9,c10⟩:=XI.at HL.out.x
 go_upto_region 3 with (go_at_call 33;(with_reducible refine (HV.out _ HL.out.fr).mono ?_);rintro e w2 ⟨rfl,hf2⟩;replace HL:=Lib.hid (HL.out.no hf2);clear hf2)
 clear c0 c1 c2 c3 c4 c5 c6 c7 c8 c9 c10
 obtain ⟨c0,c1,c2,c3,c4,c5,c6,c7,c8,c9,c10⟩:=XI.at HL.out.x
 have rd:=HL.out.st.reg hd
 have rr:=HL.out.st.reg hr
 rw [hA] at rd
 rw [hB] at rr
 go_quiet (fail)
 have HLn:=Lib.hid (HL.out.no ((Fr.refl _ _).drewN nq))
 clear HL c0 c1 c2 c3 c4 c5 c6 c7 c8 c9 c10 rd rr
 have HL:=HLn
 clear HLn
 obtain ⟨W3,hW3⟩:∃W3,W3=w2.drewN nq:=⟨_,rfl⟩
 rw [←hW3] at HL ⊢
 clear hW3
 obtain ⟨c0,c1,c2,c3,c4,c5,c6,c7,c8,c9,c10⟩:=XI.at HL.out.x
 obtain ⟨bm,n,hc,ho⟩:=HM.out.shifts
 have hc3:=HL.out.fr.cell hc id
 have hl3:(Instr.lookup 165 (.map (some bm)) (.int .i64 a) false).run Tryz.prog W3= .ok (.int .u8 (shiftsM a)) W3:=u8_look (ownsJ ho HL.out.fr) ha (shifts_at a)
 go_wp2_with (first
  |(go_at_call 69;(with_reducible refine (HD.out _).mono ?_);rintro e w5 ⟨rfl,rfl⟩)
  |(go_at_call 68;(with_reducible refine (HL.out.mov rfl hd hlt).mono ?_);rintro e w3 ⟨rfl,HL⟩)
  |(refine HL.out.st.load rfl (.tmp 3) rfl rfl ?_)
  |(refine HL.out.answer HL.out.st.ok rfl (.tmp 4) (.tmp 163) rfl rfl rfl ?_;intro W9 HS9 HF9)
)
 exact bodyPost_ret (results_st2 Tryz.results38 _ _ _ _ HS9.out rfl) rfl ⟨rfl,HF9.out⟩
theorem exec_12(a c z:Int)(wd sh:Bool)(d r:Nat)(dp rl im:Int)(s:ST)(w:World)(hs:s.ok)(hm:MachAt w)(hx:(Lit.int .i64 z).wf=true)(ha:(Lit.int .i64 a).wf=true)(hd:d<16)(hr:r<16)(hv:validM ⟨12,a,c,z,wd,sh,d,r,dp,rl,im⟩=true):
  Calls Tryz.prog 38 #[(XI.mk 12 a c z wd sh d r dp rl im).agg,s.agg] w fun e w'=>e= .returned (exV (execM ⟨12,a,c,z,wd,sh,d,r,dp,rl,im⟩ s))∧Fr No w w':=by
 have HV:Hid (∀W,Fr No w W→Calls Tryz.prog 33 #[(XI.mk 12 a c z wd sh d r dp rl im).agg] W fun e w'=>e= .returned (.bool true)∧Fr No W w'):=fun W hW=>by rw [←hv];exact valid_any _ hx W (hm.fr hW)
 have HE0:Hid (∀t1 t2 t3,_):=ESt.start (w:=w) (x:=⟨12,a,c,z,wd,sh,d,r,dp,rl,im⟩) hs
 have HM:=Lib.hid hm
 obtain ⟨A,hA⟩:∃A,s.reg d=A:=⟨_,rfl⟩
 obtain ⟨B,hB⟩:∃B,s.reg r=B:=⟨_,rfl⟩
 have hAl:A<18446744073709551616:=by rw [←hA];exact hs.reg d
 have hBl:B<18446744073709551616:=by rw [←hB];exact hs.reg r
 have hUl:u64I im<18446744073709551616:=u64I_lt im
 have hw:=u64I_wrap im
 have hsm:shiftsM a∈opsL:=shifts_mem a
 obtain ⟨C,hC⟩:∃C,s.reg 1=C:=⟨_,rfl⟩
 have hCl:C<18446744073709551616:=by rw [←hC];exact hs.reg 1
 have HQ:Hid (execM ⟨12,a,c,z,wd,sh,d,r,dp,rl,im⟩ s= .ok (s.set d (doM 0xb0 wd 0 (doM (shiftsM a) wd A C)))):=by
  subst hA
  subst hB
  unfold execM
  rw [if_neg (by rw [hv];simp)]
  subst hC
  exact Lib.hid rfl
 rw [HQ.out]
 clear hm hv
 generalize u64I im=U at*
 have HD:Hid (∀W,Calls Tryz.prog 69 #[.int .u8 (shiftsM a), .bool wd, .int .u64 A, .int .u64 C] W fun e w'=>e= .returned (.int .u64 (doM (shiftsM a) wd A C))∧W=w'):=fun W=>Do_any (shiftsM a) wd A C hsm hAl hCl W
 have hlt:doM (shiftsM a) wd A C<18446744073709551616:=doM_u64 _ _ _ _
 generalize doM (shiftsM a) wd A C=V at*
 have d1:(0:Int)≤(d:Int):=by omega
 have d2:(d:Int)<16:=by omega
 have r1:(0:Int)≤(r:Int):=by omega
 have r2:(r:Int)<16:=by omega
 simp only [XI.agg,ST.agg,exV] at*
 go_enter Tryz.func38,Tryz.ntmps38
 go_upto_region 1 with fail
 refine wp_world (fun W1=>Hid (ESt w w.heap.size ⟨12,a,c,z,wd,sh,d,r,dp,rl,im⟩ s W1)) (by exact HE0.out _ _ _) ?_
 intro W1 HL
 clear HE0
 obtain ⟨c0,c1,c2,c3,c4,c5,c6,c7,c8,c9,c10⟩:=XI.at HL.out.x
 go_upto_region 3 with (go_at_call 33;(with_reducible refine (HV.out _ HL.out.fr).mono ?_);rintro e w2 ⟨rfl,hf2⟩;replace HL:=Lib.hid (HL.out.no hf2);clear hf2)
 clear c0 c1 c2 c3 c4 c5 c6 c7 c8 c9 c10
 obtain ⟨c0,c1,c2,c3,c4,c5,c6,c7,c8,c9,c10⟩:=XI.at HL.out.x
 have rd:=HL.out.st.reg hd
 have rr:=HL.out.st.reg hr
 rw [hA] at rd
 rw [hB] at rr
 go_quiet (fail)
 have HLn:=Lib.hid (HL.out.no ((Fr.refl _ _).drewN nq))
 clear HL c0 c1 c2 c3 c4 c5 c6 c7 c8 c9 c10 rd rr
 have HL:=HLn
 clear HLn
 obtain ⟨W3,hW3⟩:∃W3,W3=w2.drewN nq:=⟨_,rfl⟩
 rw [←hW3] at HL ⊢
 clear hW3
 obtain ⟨c0,c1,c2,c3,c4,c5,c6,c7,c8,c9,c10⟩:=XI.at HL.out.x
 obtain ⟨bm,n,hc,ho⟩:=HM.out.shifts
 have hc3:=HL.out.fr.cell hc id
 have hl3:(Instr.lookup 165 (.map (some bm)) (.int .i64 a) false).run Tryz.prog W3= .ok (.int .u8 (shiftsM a)) W3:=u8_look (ownsJ ho HL.out.fr) ha (shifts_at a)
 have rc:=HL.out.st.reg (i:=1) (by decide)
 rw [hC] at rc
 go_wp2_with (first
  |(go_at_call 69;(with_reducible refine (HD.out _).mono ?_);rintro e w5 ⟨rfl,rfl⟩)
  |(go_at_call 68;(with_reducible refine (HL.out.mov rfl hd hlt).mono ?_);rintro e w3 ⟨rfl,HL⟩)
  |(refine HL.out.st.load rfl (.tmp 3) rfl rfl ?_)
  |(refine HL.out.answer HL.out.st.ok rfl (.tmp 4) (.tmp 163) rfl rfl rfl ?_;intro W9 HS9 HF9)
)
 exact bodyPost_ret (results_st2 Tryz.results38 _ _ _ _ HS9.out rfl) rfl ⟨rfl,HF9.out⟩
theorem exec_21(a c z:Int)(wd sh:Bool)(d r:Nat)(dp rl im:Int)(s:ST)(w:World)(hs:s.ok)(hm:MachAt w)(hx:(Lit.int .i64 z).wf=true)(ha:(Lit.int .i64 a).wf=true)(hd:d<16)(hr:r<16)(hv:validM ⟨21,a,c,z,wd,sh,d,r,dp,rl,im⟩=true):
  Calls Tryz.prog 38 #[(XI.mk 21 a c z wd sh d r dp rl im).agg,s.agg] w fun e w'=>e= .returned (exV (execM ⟨21,a,c,z,wd,sh,d,r,dp,rl,im⟩ s))∧Fr No w w':=by
 have HV:Hid (∀W,Fr No w W→Calls Tryz.prog 33 #[(XI.mk 21 a c z wd sh d r dp rl im).agg] W fun e w'=>e= .returned (.bool true)∧Fr No W w'):=fun W hW=>by rw [←hv];exact valid_any _ hx W (hm.fr hW)
 have HE0:Hid (∀t1 t2 t3,_):=ESt.start (w:=w) (x:=⟨21,a,c,z,wd,sh,d,r,dp,rl,im⟩) hs
 have HM:=Lib.hid hm
 obtain ⟨A,hA⟩:∃A,s.reg d=A:=⟨_,rfl⟩
 obtain ⟨B,hB⟩:∃B,s.reg r=B:=⟨_,rfl⟩
 have hAl:A<18446744073709551616:=by rw [←hA];exact hs.reg d
 have hBl:B<18446744073709551616:=by rw [←hB];exact hs.reg r
 have hUl:u64I im<18446744073709551616:=u64I_lt im
 have hw:=u64I_wrap im
 have HQ:Hid (execM ⟨21,a,c,z,wd,sh,d,r,dp,rl,im⟩ s= .ok s):=by
  subst hA
  subst hB
  unfold execM
  rw [if_neg (by rw [hv];simp)]
  exact Lib.hid rfl
 rw [HQ.out]
 clear hm hv
 generalize u64I im=U at*
 have d1:(0:Int)≤(d:Int):=by omega
 have d2:(d:Int)<16:=by omega
 have r1:(0:Int)≤(r:Int):=by omega
 have r2:(r:Int)<16:=by omega
 simp only [XI.agg,ST.agg,exV] at*
 go_enter Tryz.func38,Tryz.ntmps38
 go_upto_region 1 with fail
 refine wp_world (fun W1=>Hid (ESt w w.heap.size ⟨21,a,c,z,wd,sh,d,r,dp,rl,im⟩ s W1)) (by exact HE0.out _ _ _) ?_
 intro W1 HL
 clear HE0
 obtain ⟨c0,c1,c2,c3,c4,c5,c6,c7,c8,c9,c10⟩:=XI.at HL.out.x
 go_upto_region 3 with (go_at_call 33;(with_reducible refine (HV.out _ HL.out.fr).mono ?_);rintro e w2 ⟨rfl,hf2⟩;replace HL:=Lib.hid (HL.out.no hf2);clear hf2)
 clear c0 c1 c2 c3 c4 c5 c6 c7 c8 c9 c10
 obtain ⟨c0,c1,c2,c3,c4,c5,c6,c7,c8,c9,c10⟩:=XI.at HL.out.x
 have rd:=HL.out.st.reg hd
 have rr:=HL.out.st.reg hr
 rw [hA] at rd
 rw [hB] at rr
 go_quiet (fail)
 have HLn:=Lib.hid (HL.out.no ((Fr.refl _ _).drewN nq))
 clear HL c0 c1 c2 c3 c4 c5 c6 c7 c8 c9 c10 rd rr
 have HL:=HLn
 clear HLn
 obtain ⟨W3,hW3⟩:∃W3,W3=w2.drewN nq:=⟨_,rfl⟩
 rw [←hW3] at HL ⊢
 clear hW3
 obtain ⟨c0,c1,c2,c3,c4,c5,c6,c7,c8,c9,c10⟩:=XI.at HL.out.x
 go_wp2_with (first
  |(refine HL.out.st.load rfl (.tmp 3) rfl rfl ?_)
  |(refine HL.out.answer HL.out.st.ok rfl (.tmp 4) (.tmp 163) rfl rfl rfl ?_;intro W9 HS9 HF9)
)
 exact bodyPost_ret (results_st2 Tryz.results38 _ _ _ _ HS9.out rfl) rfl ⟨rfl,HF9.out⟩
theorem exec_8(a c z:Int)(wd sh:Bool)(d r:Nat)(dp rl im:Int)(s:ST)(w:World)(hs:s.ok)(hm:MachAt w)(hx:(Lit.int .i64 z).wf=true)(ha:(Lit.int .i64 a).wf=true)(hd:d<16)(hr:r<16)(hv:validM ⟨8,a,c,z,wd,sh,d,r,dp,rl,im⟩=true):
  Calls Tryz.prog 38 #[(XI.mk 8 a c z wd sh d r dp rl im).agg,s.agg] w fun e w'=>e= .returned (exV (execM ⟨8,a,c,z,wd,sh,d,r,dp,rl,im⟩ s))∧Fr No w w':=by
 have HV:Hid (∀W,Fr No w W→Calls Tryz.prog 33 #[(XI.mk 8 a c z wd sh d r dp rl im).agg] W fun e w'=>e= .returned (.bool true)∧Fr No W w'):=fun W hW=>by rw [←hv];exact valid_any _ hx W (hm.fr hW)
 have HE0:Hid (∀t1 t2 t3,_):=ESt.start (w:=w) (x:=⟨8,a,c,z,wd,sh,d,r,dp,rl,im⟩) hs
 have HM:=Lib.hid hm
 obtain ⟨A,hA⟩:∃A,s.reg d=A:=⟨_,rfl⟩
 obtain ⟨B,hB⟩:∃B,s.reg r=B:=⟨_,rfl⟩
 have hAl:A<18446744073709551616:=by rw [←hA];exact hs.reg d
 have hBl:B<18446744073709551616:=by rw [←hB];exact hs.reg r
 have hUl:u64I im<18446744073709551616:=u64I_lt im
 have hw:=u64I_wrap im
 obtain ⟨C,hC⟩:∃C,s.reg 0=C:=⟨_,rfl⟩
 have hCl:C<18446744073709551616:=by rw [←hC];exact hs.reg 0
 have HST:Hid (∀(u v:Nat) W,u<18446744073709551616→v<18446744073709551616→ESt w w.heap.size ⟨8,a,c,z,wd,sh,d,r,dp,rl,im⟩ s W→ESt w w.heap.size ⟨8,a,c,z,wd,sh,d,r,dp,rl,im⟩ ((s.set 0 u).set 2 v) ((W.setCell ⟨w.heap.size+1,0,none⟩ (.int .u64 u)).setCell ⟨w.heap.size+1,2,none⟩ (.int .u64 v))):=Lib.hid (fun u v W hu hv h=>(h.setReg (i:=0) (by decide) hu).setReg (i:=2) (by decide) hv)
 have HQ:Hid (execM ⟨8,a,c,z,wd,sh,d,r,dp,rl,im⟩ s= .ok ((s.set 0 (timesM wd C A).1).set 2 (timesM wd C A).2)):=by
  subst hA
  subst hB
  unfold execM
  rw [if_neg (by rw [hv];simp)]
  subst hC
  exact Lib.hid rfl
 rw [HQ.out]
 clear hm hv
 generalize u64I im=U at*
 have HT:Hid (∀W,Calls Tryz.prog 71 #[.bool wd, .int .u64 C, .int .u64 A] W fun e w'=>e= .returned (.tuple #[.int .u64 (timesM wd C A).1, .int .u64 (timesM wd C A).2])∧W=w'):=fun W=>times_any wd C A W hCl hAl
 obtain ⟨tl1,tl2⟩:=times_lt wd C A
 generalize (timesM wd C A).1=M1 at*
 generalize (timesM wd C A).2=M2 at*
 have d1:(0:Int)≤(d:Int):=by omega
 have d2:(d:Int)<16:=by omega
 have r1:(0:Int)≤(r:Int):=by omega
 have r2:(r:Int)<16:=by omega
 simp only [XI.agg,ST.agg,exV] at*
 go_enter Tryz.func38,Tryz.ntmps38
 go_upto_region 1 with fail
 refine wp_world (fun W1=>Hid (ESt w w.heap.size ⟨8,a,c,z,wd,sh,d,r,dp,rl,im⟩ s W1)) (by exact HE0.out _ _ _) ?_
 intro W1 HL
 clear HE0
 obtain ⟨c0,c1,c2,c3,c4,c5,c6,c7,c8,c9,c10⟩:=XI.at HL.out.x
 go_upto_region 3 with (go_at_call 33;(with_reducible refine (HV.out _ HL.out.fr).mono ?_);rintro e w2 ⟨rfl,hf2⟩;replace HL:=Lib.hid (HL.out.no hf2);clear hf2)
 clear c0 c1 c2 c3 c4 c5 c6 c7 c8 c9 c10
 obtain ⟨c0,c1,c2,c3,c4,c5,c6,c7,c8,c9,c10⟩:=XI.at HL.out.x
 have rd:=HL.out.st.reg hd
 have rr:=HL.out.st.reg hr
 rw [hA] at rd
 rw [hB] at rr
 go_quiet (fail)
 have HLn:=Lib.hid (HL.out.no ((Fr.refl _ _).drewN nq))
 clear HL c0 c1 c2 c3 c4 c5 c6 c7 c8 c9 c10 rd rr
 have HL:=HLn
 clear HLn
 obtain ⟨W3,hW3⟩:∃W3,W3=w2.drewN nq:=⟨_,rfl⟩
 rw [←hW3] at HL ⊢
 clear hW3
 obtain ⟨c0,c1,c2,c3,c4,c5,c6,c7,c8,c9,c10⟩:=XI.at HL.out.x
 have rc:=HL.out.st.reg (i:=0) (by decide)
 have re:=HL.out.st.reg (i:=2) (by decide)
 rw [hC] at rc
 have oo:=HL.out.st.open_
 go_upto_region 37 with (go_at_call 71;(with_reducible refine (HT.out _).mono ?_);rintro e w5 ⟨rfl,rfl⟩)
 obtain ⟨W7,hW7⟩:∃W7,W7=((W3.setCell ⟨w.heap.size+1,0,none⟩ (.int .u64 M1)).setCell ⟨w.heap.size+1,2,none⟩ (.int .u64 M2)):=⟨_,rfl⟩
 have HL7:=Lib.hid (HST.out M1 M2 _ tl1 tl2 HL.out)
 rw [←hW7] at HL7 ⊢
 clear hW7 HL HST
 have HL:=HL7
 clear HL7
 go_wp2_with (first
  |(refine HL.out.st.load rfl (.tmp 3) rfl rfl ?_)
  |(refine HL.out.answer HL.out.st.ok rfl (.tmp 4) (.tmp 163) rfl rfl rfl ?_;intro W9 HS9 HF9)
)
 exact bodyPost_ret (results_st2 Tryz.results38 _ _ _ _ HS9.out rfl) rfl ⟨rfl,HF9.out⟩
theorem exec_9(a c z:Int)(wd sh:Bool)(d r:Nat)(dp rl im:Int)(s:ST)(w:World)(hs:s.ok)(hm:MachAt w)(hx:(Lit.int .i64 z).wf=true)(ha:(Lit.int .i64 a).wf=true)(hd:d<16)(hr:r<16)(M1 M2:Nat)(hp:partM wd (s.reg 2) (s.reg 0) (s.reg d)=some (M1,M2))(hv:validM ⟨9,a,c,z,wd,sh,d,r,dp,rl,im⟩=true):
  Calls Tryz.prog 38 #[(XI.mk 9 a c z wd sh d r dp rl im).agg,s.agg] w fun e w'=>e= .returned (exV (execM ⟨9,a,c,z,wd,sh,d,r,dp,rl,im⟩ s))∧Fr No w w':=by
 have HV:Hid (∀W,Fr No w W→Calls Tryz.prog 33 #[(XI.mk 9 a c z wd sh d r dp rl im).agg] W fun e w'=>e= .returned (.bool true)∧Fr No W w'):=fun W hW=>by rw [←hv];exact valid_any _ hx W (hm.fr hW)
 have HE0:Hid (∀t1 t2 t3,_):=ESt.start (w:=w) (x:=⟨9,a,c,z,wd,sh,d,r,dp,rl,im⟩) hs
 have HM:=Lib.hid hm
 obtain ⟨A,hA⟩:∃A,s.reg d=A:=⟨_,rfl⟩
 obtain ⟨B,hB⟩:∃B,s.reg r=B:=⟨_,rfl⟩
 have hAl:A<18446744073709551616:=by rw [←hA];exact hs.reg d
 have hBl:B<18446744073709551616:=by rw [←hB];exact hs.reg r
 have hUl:u64I im<18446744073709551616:=u64I_lt im
 have hw:=u64I_wrap im
 obtain ⟨C,hC⟩:∃C,s.reg 0=C:=⟨_,rfl⟩
 have hCl:C<18446744073709551616:=by rw [←hC];exact hs.reg 0
 obtain ⟨D,hD⟩:∃D,s.reg 2=D:=⟨_,rfl⟩
 have hDl:D<18446744073709551616:=by rw [←hD];exact hs.reg 2
 have HST:Hid (∀(u v:Nat) W,u<18446744073709551616→v<18446744073709551616→ESt w w.heap.size ⟨9,a,c,z,wd,sh,d,r,dp,rl,im⟩ s W→ESt w w.heap.size ⟨9,a,c,z,wd,sh,d,r,dp,rl,im⟩ ((s.set 0 u).set 2 v) ((W.setCell ⟨w.heap.size+1,0,none⟩ (.int .u64 u)).setCell ⟨w.heap.size+1,2,none⟩ (.int .u64 v))):=Lib.hid (fun u v W hu hv h=>(h.setReg (i:=0) (by decide) hu).setReg (i:=2) (by decide) hv)
 obtain ⟨tl1,tl2⟩:=part_lt wd hp
 have HQ:Hid (execM ⟨9,a,c,z,wd,sh,d,r,dp,rl,im⟩ s= .ok ((s.set 0 M1).set 2 M2)):=by
  subst hA
  subst hB
  unfold execM
  rw [if_neg (by rw [hv];simp)]
  subst hC
  subst hD
  simp [hp]
  exact Lib.hid trivial
 rw [HQ.out]
 clear hm hv
 generalize u64I im=U at*
 have HT:Hid (∀W,Calls Tryz.prog 72 #[.bool wd, .int .u64 D, .int .u64 C, .int .u64 A] W fun e w'=>e= .returned (partV (some (M1,M2)))∧Fr No W w'):=fun W=>by rw [←hp,hD,hC,hA];exact part_any wd D C A W hDl hAl hCl
 simp only [partV] at HT
 have d1:(0:Int)≤(d:Int):=by omega
 have d2:(d:Int)<16:=by omega
 have r1:(0:Int)≤(r:Int):=by omega
 have r2:(r:Int)<16:=by omega
 simp only [XI.agg,ST.agg,exV] at*
 go_enter Tryz.func38,Tryz.ntmps38
 go_upto_region 1 with fail
 refine wp_world (fun W1=>Hid (ESt w w.heap.size ⟨9,a,c,z,wd,sh,d,r,dp,rl,im⟩ s W1)) (by exact HE0.out _ _ _) ?_
 intro W1 HL
 clear HE0
 obtain ⟨c0,c1,c2,c3,c4,c5,c6,c7,c8,c9,c10⟩:=XI.at HL.out.x
 go_upto_region 3 with (go_at_call 33;(with_reducible refine (HV.out _ HL.out.fr).mono ?_);rintro e w2 ⟨rfl,hf2⟩;replace HL:=Lib.hid (HL.out.no hf2);clear hf2)
 clear c0 c1 c2 c3 c4 c5 c6 c7 c8 c9 c10
 obtain ⟨c0,c1,c2,c3,c4,c5,c6,c7,c8,c9,c10⟩:=XI.at HL.out.x
 have rd:=HL.out.st.reg hd
 have rr:=HL.out.st.reg hr
 rw [hA] at rd
 rw [hB] at rr
 go_quiet (fail)
 have HLn:=Lib.hid (HL.out.no ((Fr.refl _ _).drewN nq))
 clear HL c0 c1 c2 c3 c4 c5 c6 c7 c8 c9 c10 rd rr
 have HL:=HLn
 clear HLn
 obtain ⟨W3,hW3⟩:∃W3,W3=w2.drewN nq:=⟨_,rfl⟩
 rw [←hW3] at HL ⊢
 clear hW3
 obtain ⟨c0,c1,c2,c3,c4,c5,c6,c7,c8,c9,c10⟩:=XI.at HL.out.x
 have rc:=HL.out.st.reg (i:=0) (by decide)
 have re:=HL.out.st.reg (i:=2) (by decide)
 rw [hC] at rc
 have oo:=HL.out.st.open_
 rw [hD] at re
 go_upto_region 37 with (go_at_call 72;(with_reducible refine (HT.out _).mono ?_);rintro e w5 ⟨rfl,hf5⟩;replace HL:=Lib.hid (HL.out.no hf5);clear hf5;obtain ⟨c0,c1,c2,c3,c4,c5,c6,c7,c8,c9,c10⟩:=XI.at HL.out.x;have rc:=HL.out.st.reg (i:=0) (by decide);have re:=HL.out.st.reg (i:=2) (by decide);rw [hC] at rc;rw [hD] at re;have oo:=HL.out.st.open_)
 obtain ⟨W7,hW7⟩:∃W7,W7=((w5.setCell ⟨w.heap.size+1,0,none⟩ (.int .u64 M1)).setCell ⟨w.heap.size+1,2,none⟩ (.int .u64 M2)):=⟨_,rfl⟩
 have HL7:=Lib.hid (HST.out M1 M2 _ tl1 tl2 HL.out)
 rw [←hW7] at HL7 ⊢
 clear hW7 HL HST
 have HL:=HL7
 clear HL7
 go_wp2_with (first
  |(refine HL.out.st.load rfl (.tmp 3) rfl rfl ?_)
  |(refine HL.out.answer HL.out.st.ok rfl (.tmp 4) (.tmp 163) rfl rfl rfl ?_;intro W9 HS9 HF9)
)
 exact bodyPost_ret (results_st2 Tryz.results38 _ _ _ _ HS9.out rfl) rfl ⟨rfl,HF9.out⟩
theorem exec_9n(a c z:Int)(wd sh:Bool)(d r:Nat)(dp rl im:Int)(s:ST)(w:World)(hs:s.ok)(hm:MachAt w)(hx:(Lit.int .i64 z).wf=true)(ha:(Lit.int .i64 a).wf=true)(hd:d<16)(hr:r<16)(hp:partM wd (s.reg 2) (s.reg 0) (s.reg d)=none)(hv:validM ⟨9,a,c,z,wd,sh,d,r,dp,rl,im⟩=true):
  Calls Tryz.prog 38 #[(XI.mk 9 a c z wd sh d r dp rl im).agg,s.agg] w fun e w'=>e= .returned (exV (execM ⟨9,a,c,z,wd,sh,d,r,dp,rl,im⟩ s))∧Fr No w w':=by
 have HV:Hid (∀W,Fr No w W→Calls Tryz.prog 33 #[(XI.mk 9 a c z wd sh d r dp rl im).agg] W fun e w'=>e= .returned (.bool true)∧Fr No W w'):=fun W hW=>by rw [←hv];exact valid_any _ hx W (hm.fr hW)
 have HE0:Hid (∀t1 t2 t3,_):=ESt.start (w:=w) (x:=⟨9,a,c,z,wd,sh,d,r,dp,rl,im⟩) hs
 have HM:=Lib.hid hm
 obtain ⟨A,hA⟩:∃A,s.reg d=A:=⟨_,rfl⟩
 obtain ⟨B,hB⟩:∃B,s.reg r=B:=⟨_,rfl⟩
 have hAl:A<18446744073709551616:=by rw [←hA];exact hs.reg d
 have hBl:B<18446744073709551616:=by rw [←hB];exact hs.reg r
 have hUl:u64I im<18446744073709551616:=u64I_lt im
 have hw:=u64I_wrap im
 obtain ⟨C,hC⟩:∃C,s.reg 0=C:=⟨_,rfl⟩
 have hCl:C<18446744073709551616:=by rw [←hC];exact hs.reg 0
 obtain ⟨D,hD⟩:∃D,s.reg 2=D:=⟨_,rfl⟩
 have hDl:D<18446744073709551616:=by rw [←hD];exact hs.reg 2
 have HQ:Hid (execM ⟨9,a,c,z,wd,sh,d,r,dp,rl,im⟩ s= .error 120):=by
  subst hA
  subst hB
  unfold execM
  rw [if_neg (by rw [hv];simp)]
  subst hC
  subst hD
  simp [hp]
  exact Lib.hid trivial
 rw [HQ.out]
 clear hm hv
 generalize u64I im=U at*
 have HT:Hid (∀W,Calls Tryz.prog 72 #[.bool wd, .int .u64 D, .int .u64 C, .int .u64 A] W fun e w'=>e= .returned (partV (none))∧Fr No W w'):=fun W=>by rw [←hp,hD,hC,hA];exact part_any wd D C A W hDl hAl hCl
 simp only [partV] at HT
 have d1:(0:Int)≤(d:Int):=by omega
 have d2:(d:Int)<16:=by omega
 have r1:(0:Int)≤(r:Int):=by omega
 have r2:(r:Int)<16:=by omega
 simp only [XI.agg,ST.agg,exV] at*
 go_enter Tryz.func38,Tryz.ntmps38
 go_upto_region 1 with fail
 refine wp_world (fun W1=>Hid (ESt w w.heap.size ⟨9,a,c,z,wd,sh,d,r,dp,rl,im⟩ s W1)) (by exact HE0.out _ _ _) ?_
 intro W1 HL
 clear HE0
 obtain ⟨c0,c1,c2,c3,c4,c5,c6,c7,c8,c9,c10⟩:=XI.at HL.out.x
 go_upto_region 3 with (go_at_call 33;(with_reducible refine (HV.out _ HL.out.fr).mono ?_);rintro e w2 ⟨rfl,hf2⟩;replace HL:=Lib.hid (HL.out.no hf2);clear hf2)
 clear c0 c1 c2 c3 c4 c5 c6 c7 c8 c9 c10
 obtain ⟨c0,c1,c2,c3,c4,c5,c6,c7,c8,c9,c10⟩:=XI.at HL.out.x
 have rd:=HL.out.st.reg hd
 have rr:=HL.out.st.reg hr
 rw [hA] at rd
 rw [hB] at rr
 go_quiet (fail)
 have HLn:=Lib.hid (HL.out.no ((Fr.refl _ _).drewN nq))
 clear HL c0 c1 c2 c3 c4 c5 c6 c7 c8 c9 c10 rd rr
 have HL:=HLn
 clear HLn
 obtain ⟨W3,hW3⟩:∃W3,W3=w2.drewN nq:=⟨_,rfl⟩
 rw [←hW3] at HL ⊢
 clear hW3
 obtain ⟨c0,c1,c2,c3,c4,c5,c6,c7,c8,c9,c10⟩:=XI.at HL.out.x
 have rc:=HL.out.st.reg (i:=0) (by decide)
 have re:=HL.out.st.reg (i:=2) (by decide)
 rw [hC] at rc
 have oo:=HL.out.st.open_
 rw [hD] at re
 go_wp2_with (first
  |(go_at_call 72;(with_reducible refine (HT.out _).mono ?_);rintro e w5 ⟨rfl,hf5⟩;replace HL:=Lib.hid (HL.out.no hf5);clear hf5;obtain ⟨c0,c1,c2,c3,c4,c5,c6,c7,c8,c9,c10⟩:=XI.at HL.out.x;have rc:=HL.out.st.reg (i:=0) (by decide);have re:=HL.out.st.reg (i:=2) (by decide);rw [hC] at rc;rw [hD] at re;have oo:=HL.out.st.open_)
  |(refine HL.out.st.load rfl (.tmp 3) rfl rfl ?_)
  |(refine HL.out.answer ST.zero_ok rfl (.tmp 4) (.tmp 124) rfl rfl rfl ?_;intro W9 HS9 HF9)
)
 exact bodyPost_ret (results_st2 Tryz.results38 _ _ _ _ HS9.out rfl) rfl ⟨rfl,HF9.out⟩
theorem exec_else(k a c z:Int)(wd sh:Bool)(d r:Nat)(dp rl im:Int)(s:ST)(w:World)(hs:s.ok)(hm:MachAt w)(hx:(Lit.int .i64 z).wf=true)(ha:(Lit.int .i64 a).wf=true)(hd:d<16)(hr:r<16)(k1:k≠1)(k2:k≠2)(k3:k≠3)(k4:k≠4)(k5:k≠5)(k6:k≠6)(k7:k≠7)(k8:k≠8)(k9:k≠9)(k10:k≠10)(k11:k≠11)(k12:k≠12)(k21:k≠21)(hv:validM ⟨k,a,c,z,wd,sh,d,r,dp,rl,im⟩=true):
  Calls Tryz.prog 38 #[(XI.mk k a c z wd sh d r dp rl im).agg,s.agg] w fun e w'=>e= .returned (exV (execM ⟨k,a,c,z,wd,sh,d,r,dp,rl,im⟩ s))∧Fr No w w':=by
 have HV:Hid (∀W,Fr No w W→Calls Tryz.prog 33 #[(XI.mk k a c z wd sh d r dp rl im).agg] W fun e w'=>e= .returned (.bool true)∧Fr No W w'):=fun W hW=>by rw [←hv];exact valid_any _ hx W (hm.fr hW)
 have HE0:Hid (∀t1 t2 t3,_):=ESt.start (w:=w) (x:=⟨k,a,c,z,wd,sh,d,r,dp,rl,im⟩) hs
 have HM:=Lib.hid hm
 obtain ⟨A,hA⟩:∃A,s.reg d=A:=⟨_,rfl⟩
 obtain ⟨B,hB⟩:∃B,s.reg r=B:=⟨_,rfl⟩
 have hAl:A<18446744073709551616:=by rw [←hA];exact hs.reg d
 have hBl:B<18446744073709551616:=by rw [←hB];exact hs.reg r
 have hUl:u64I im<18446744073709551616:=u64I_lt im
 have hw:=u64I_wrap im
 have e1:(k==1)=false:=by rw [beq_eq_false_iff_ne];exact k1
 have e2:(k==2)=false:=by rw [beq_eq_false_iff_ne];exact k2
 have e3:(k==3)=false:=by rw [beq_eq_false_iff_ne];exact k3
 have e4:(k==4)=false:=by rw [beq_eq_false_iff_ne];exact k4
 have e5:(k==5)=false:=by rw [beq_eq_false_iff_ne];exact k5
 have e6:(k==6)=false:=by rw [beq_eq_false_iff_ne];exact k6
 have e7:(k==7)=false:=by rw [beq_eq_false_iff_ne];exact k7
 have e8:(k==8)=false:=by rw [beq_eq_false_iff_ne];exact k8
 have e9:(k==9)=false:=by rw [beq_eq_false_iff_ne];exact k9
 have e10:(k==10)=false:=by rw [beq_eq_false_iff_ne];exact k10
 have e11:(k==11)=false:=by rw [beq_eq_false_iff_ne];exact k11
 have e12:(k==12)=false:=by rw [beq_eq_false_iff_ne];exact k12
 have e21:(k==21)=false:=by rw [beq_eq_false_iff_ne];exact k21
 have HQ:Hid (execM ⟨k,a,c,z,wd,sh,d,r,dp,rl,im⟩ s= .error 2):=by
  subst hA
  subst hB
  unfold execM
  rw [if_neg (by rw [hv];simp)]
  simp only [k1,k2,k3,k4,k5,k6,k7,k8,k9,k10,k11,k12,k21,if_false,or_self]
  exact Lib.hid trivial
 rw [HQ.out]
 clear hm hv
 generalize u64I im=U at*
 clear k1 k2 k3 k4 k5 k6 k7 k8 k9 k10 k11 k12 k21
 have d1:(0:Int)≤(d:Int):=by omega
 have d2:(d:Int)<16:=by omega
 have r1:(0:Int)≤(r:Int):=by omega
 have r2:(r:Int)<16:=by omega
 simp only [XI.agg,ST.agg,exV] at*
 go_enter Tryz.func38,Tryz.ntmps38
 go_upto_region 1 with fail
 refine wp_world (fun W1=>Hid (ESt w w.heap.size ⟨k,a,c,z,wd,sh,d,r,dp,rl,im⟩ s W1)) (by exact HE0.out _ _ _) ?_
 intro W1 HL
 clear HE0
 obtain ⟨c0,c1,c2,c3,c4,c5,c6,c7,c8,c9,c10⟩:=XI.at HL.out.x
 go_upto_region 3 with (go_at_call 33;(with_reducible refine (HV.out _ HL.out.fr).mono ?_);rintro e w2 ⟨rfl,hf2⟩;replace HL:=Lib.hid (HL.out.no hf2);clear hf2)
 clear c0 c1 c2 c3 c4 c5 c6 c7 c8 c9 c10
 obtain ⟨c0,c1,c2,c3,c4,c5,c6,c7,c8,c9,c10⟩:=XI.at HL.out.x
 have rd:=HL.out.st.reg hd
 have rr:=HL.out.st.reg hr
 rw [hA] at rd
 rw [hB] at rr
 go_quiet (fail)
 have HLn:=Lib.hid (HL.out.no ((Fr.refl _ _).drewN nq))
 clear HL c0 c1 c2 c3 c4 c5 c6 c7 c8 c9 c10 rd rr
 have HL:=HLn
 clear HLn
 obtain ⟨W3,hW3⟩:∃W3,W3=w2.drewN nq:=⟨_,rfl⟩
 rw [←hW3] at HL ⊢
 clear hW3
 obtain ⟨c0,c1,c2,c3,c4,c5,c6,c7,c8,c9,c10⟩:=XI.at HL.out.x
 go_wp2_with (first
  |(refine HL.out.st.load rfl (.tmp 3) rfl rfl ?_)
  |(refine HL.out.answer ST.zero_ok rfl (.tmp 4) (.tmp 36) rfl rfl rfl ?_;intro W9 HS9 HF9)
)
 exact bodyPost_ret (results_st2 Tryz.results38 _ _ _ _ HS9.out rfl) rfl ⟨rfl,HF9.out⟩
theorem i64_wf{n:Int}(h: -9223372036854775808≤n∧n≤9223372036854775807):(Lit.int .i64 n).wf=true:=by
 have:=wrap64_wf n
 rwa [IntWalk.wrap64_in _ h] at this
theorem exec_any(x:XI)(s:ST)(w:World)(hx:x.ok)(hs:s.ok)(hm:MachAt w):
  Calls Tryz.prog 38 #[x.agg,s.agg] w fun e w'=>e= .returned (exV (execM x s))∧Fr No w w':=by
 cases hv:validM x with
 |false=>
  have e:execM x s= .error 2:=by unfold execM;rw [if_pos hv]
  rw [e]
  exact exec_not x s w hs hm (i64_wf hx.size) hv
 |true=>
  obtain ⟨k,hk1,hk2,hk,hmx⟩:=valid_may hv
  obtain ⟨d,r,hd,hr,ed,er⟩:=hmx.regs
  have wz:=i64_wf hx.size
  have wa:=i64_wf hx.alu
  clear hmx hx
  obtain ⟨kk,a,c,z,wd,sh,dd,rr,dp,rl,im⟩:=x
  simp only at hk ed er wz wa
  subst hk ed er
  by_cases k1:k=1
  ·subst k1;exact exec_1 a c z wd sh d r dp rl im s w hs hm wz wa hd hr hv
  by_cases k2:k=2
  ·subst k2;exact exec_2 a c z wd sh d r dp rl im s w hs hm wz wa hd hr hv
  by_cases k3:k=3
  ·subst k3;exact exec_3 a c z wd sh d r dp rl im s w hs hm wz wa hd hr hv
  by_cases k4:k=4
  ·subst k4
   by_cases h7:a=7
   ·exact exec_4c a c z wd sh d r dp rl im s w hs hm wz wa hd hr h7 hv
   ·exact exec_4 a c z wd sh d r dp rl im s w hs hm wz wa hd hr h7 hv
  by_cases k5:k=5
  ·subst k5
   by_cases h7:a=7
   ·exact exec_5c a c z wd sh d r dp rl im s w hs hm wz wa hd hr h7 hv
   ·exact exec_5 a c z wd sh d r dp rl im s w hs hm wz wa hd hr h7 hv
  by_cases k6:k=6
  ·subst k6;exact exec_6 a c z wd sh d r dp rl im s w hs hm wz wa hd hr hv
  by_cases k7:k=7
  ·subst k7;exact exec_7 a c z wd sh d r dp rl im s w hs hm wz wa hd hr hv
  by_cases k8:k=8
  ·subst k8;exact exec_8 a c z wd sh d r dp rl im s w hs hm wz wa hd hr hv
  by_cases k9:k=9
  ·subst k9
   cases hp:partM wd (s.reg 2) (s.reg 0) (s.reg d) with
   |none=>exact exec_9n a c z wd sh d r dp rl im s w hs hm wz wa hd hr hp hv
   |some q=>exact exec_9 a c z wd sh d r dp rl im s w hs hm wz wa hd hr q.1 q.2 hp hv
  by_cases k10:k=10
  ·subst k10;exact exec_10 a c z wd sh d r dp rl im s w hs hm wz wa hd hr hv
  by_cases k11:k=11
  ·subst k11;exact exec_11 a c z wd sh d r dp rl im s w hs hm wz wa hd hr hv
  by_cases k12:k=12
  ·subst k12;exact exec_12 a c z wd sh d r dp rl im s w hs hm wz wa hd hr hv
  by_cases k21:k=21
  ·subst k21;exact exec_21 a c z wd sh d r dp rl im s w hs hm wz wa hd hr hv
  exact exec_else k a c z wd sh d r dp rl im s w hs hm wz wa hd hr (by omega) (by omega) (by omega) (by omega) (by omega) (by omega) (by omega) (by omega) (by omega) (by omega) (by omega) (by omega) (by omega) hv
def cD:List MapD:= [⟨1,4,1,2⟩]
def cS:List Tab:=cD.map Tab.new
theorem more_nil:MoreOk []:=⟨⟨fun _ h=>absurd h (by simp), .nil,by decide⟩,fun _ h=>absurd h (by simp),fun _ h=>absurd h (by simp),by decide⟩
end Go.Proofs.YtjcgmhlbkheadaaGreatDoor
