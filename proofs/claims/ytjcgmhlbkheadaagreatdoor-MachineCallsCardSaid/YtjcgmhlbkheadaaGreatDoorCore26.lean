/- package cpu: Exec. (printed by mkexec.py) -/
import Derived.Test.YtjcgmhlbkheadaaGreatDoorCore25
set_option linter.all false
set_option linter.unusedVariables false
set_option linter.unusedSimpArgs false
set_option maxRecDepth 100000
set_option maxHeartbeats 2000000
namespace Go.Proofs.YtjcgmhlbkheadaaGreatDoor
open Go.RowKit
theorem shifts_mem(a:Int):shiftsM a∈opsL:=by
 unfold shiftsM opsL
 split;·simp
 split;·simp
 split<;>simp
theorem times_lt(wide:Bool)(a b:Nat):(timesM wide a b).1<18446744073709551616∧(timesM wide a b).2<18446744073709551616:=by
 have hW:=word_pos wide
 have hl:=word_le wide
 refine ⟨Nat.lt_of_lt_of_le (Nat.mod_lt _ hW) hl,Nat.lt_of_lt_of_le ((Nat.div_lt_iff_lt_mul hW).2 ?_) hl⟩
 exact Nat.mul_lt_mul'' (Nat.mod_lt _ hW) (Nat.mod_lt _ hW)
theorem part_lt(wide:Bool){hi lo y u v:Nat}(h:partM wide hi lo y=some (u,v)):u<18446744073709551616∧v<18446744073709551616:=by
 have hW:=word_pos wide
 have hl:=word_le wide
 unfold partM at h
 simp only at h
 split at h
 ·cases h
 ·rename_i hc
  obtain ⟨rfl,rfl⟩:=Prod.mk.inj (Option.some.inj h)
  have h2:hi%wordN wide<y%wordN wide:=by omega
  have h3:0<y%wordN wide:=by omega
  have h4:y%wordN wide<wordN wide:=Nat.mod_lt _ hW
  refine ⟨Nat.lt_of_lt_of_le (div_lt_of h3 (hi_lo h2 (Nat.mod_lt _ hW))) hl,Nat.lt_of_lt_of_le (Nat.lt_trans (Nat.mod_lt _ h3) h4) hl⟩
theorem exec_not(x:XI)(s:ST)(w:World)(hs:s.ok)(hm:MachAt w)(hx:(Lit.int .i64 x.size).wf=true)(hv:validM x=false):
  Calls Tryz.prog 38 #[x.agg,s.agg] w fun e w'=>e= .returned (exV (.error 2))∧Fr No w w':=by
 have HV:Hid (∀W,Fr No w W→Calls Tryz.prog 33 #[x.agg] W fun e w'=>e= .returned (.bool false)∧Fr No W w'):=fun W hW=>by rw [←hv];exact valid_any x hx W (hm.fr hW)
 have HE0:Hid (∀t1 t2 t3,_):=ESt.start (w:=w) (x:=x) hs
 clear hm hv
 obtain ⟨k,a,c,z,wd,sh,d,r,dp,rl,im⟩:=x
 simp only [XI.agg,ST.agg] at*
 go_enter Tryz.func38,Tryz.ntmps38
 go_upto_region 1 with fail
 refine wp_world (fun W1=>Hid (ESt w w.heap.size ⟨k,a,c,z,wd,sh,d,r,dp,rl,im⟩ s W1)) (by exact HE0.out _ _ _) ?_
 intro W1 HL
 clear HE0
 obtain ⟨c0,c1,c2,c3,c4,c5,c6,c7,c8,c9,c10⟩:=XI.at HL.out.x
 go_wp2_with (first
  |(go_at_call 33;(with_reducible refine (HV.out _ HL.out.fr).mono ?_);rintro e w2 ⟨rfl,hf2⟩;have HL2:=Lib.hid (HL.out.no hf2);clear hf2)
  |(refine HL2.out.answer ST.zero_ok rfl (.tmp 4) (.tmp 16) rfl rfl rfl ?_;intro W9 HS9 HF9))
 refine bodyPost_ret (results_st2 Tryz.results38 _ _ _ ST.zero HS9.out rfl) rfl ⟨rfl,HF9.out⟩
theorem exec_1(a c z:Int)(wd sh:Bool)(d r:Nat)(dp rl im:Int)(s:ST)(w:World)(hs:s.ok)(hm:MachAt w)(hx:(Lit.int .i64 z).wf=true)(ha:(Lit.int .i64 a).wf=true)(hd:d<16)(hr:r<16)(hv:validM ⟨1,a,c,z,wd,sh,d,r,dp,rl,im⟩=true):
  Calls Tryz.prog 38 #[(XI.mk 1 a c z wd sh d r dp rl im).agg,s.agg] w fun e w'=>e= .returned (exV (execM ⟨1,a,c,z,wd,sh,d,r,dp,rl,im⟩ s))∧Fr No w w':=by
 have HV:Hid (∀W,Fr No w W→Calls Tryz.prog 33 #[(XI.mk 1 a c z wd sh d r dp rl im).agg] W fun e w'=>e= .returned (.bool true)∧Fr No W w'):=fun W hW=>by rw [←hv];exact valid_any _ hx W (hm.fr hW)
 have HE0:Hid (∀t1 t2 t3,_):=ESt.start (w:=w) (x:=⟨1,a,c,z,wd,sh,d,r,dp,rl,im⟩) hs
 have HM:=Lib.hid hm
 obtain ⟨A,hA⟩:∃A,s.reg d=A:=⟨_,rfl⟩
 obtain ⟨B,hB⟩:∃B,s.reg r=B:=⟨_,rfl⟩
 have hAl:A<18446744073709551616:=by rw [←hA];exact hs.reg d
 have hBl:B<18446744073709551616:=by rw [←hB];exact hs.reg r
 have hUl:u64I im<18446744073709551616:=u64I_lt im
 have hw:=u64I_wrap im
 have HQ:Hid (execM ⟨1,a,c,z,wd,sh,d,r,dp,rl,im⟩ s= .ok (s.set d (doM 0xb0 wd 0 B))):=by
  subst hA
  subst hB
  unfold execM
  rw [if_neg (by rw [hv];simp)]
  exact Lib.hid rfl
 rw [HQ.out]
 clear hm hv
 generalize u64I im=U at*
 have d1:(0:Int)≤(d:Int):=by omega
 have d2:(d:Int)<16:=by omega
 have r1:(0:Int)≤(r:Int):=by omega
 have r2:(r:Int)<16:=by omega
 simp only [XI.agg,ST.agg,exV] at*
 go_enter Tryz.func38,Tryz.ntmps38
 go_upto_region 1 with fail
 refine wp_world (fun W1=>Hid (ESt w w.heap.size ⟨1,a,c,z,wd,sh,d,r,dp,rl,im⟩ s W1)) (by exact HE0.out _ _ _) ?_
 intro W1 HL
 clear HE0
 obtain ⟨c0,c1,c2,c3,c4,c5,c6,c7,c8,c9,c10⟩:=XI.at HL.out.x
 go_upto_region 3 with (go_at_call 33;(with_reducible refine (HV.out _ HL.out.fr).mono ?_);rintro e w2 ⟨rfl,hf2⟩;replace HL:=Lib.hid (HL.out.no hf2);clear hf2)
 clear c0 c1 c2 c3 c4 c5 c6 c7 c8 c9 c10
 obtain ⟨c0,c1,c2,c3,c4,c5,c6,c7,c8,c9,c10⟩:=XI.at HL.out.x
 have rd:=HL.out.st.reg hd
 have rr:=HL.out.st.reg hr
 rw [hA] at rd
 rw [hB] at rr
 go_quiet (fail)
 have HLn:=Lib.hid (HL.out.no ((Fr.refl _ _).drewN nq))
 clear HL c0 c1 c2 c3 c4 c5 c6 c7 c8 c9 c10 rd rr
 have HL:=HLn
 clear HLn
 obtain ⟨W3,hW3⟩:∃W3,W3=w2.drewN nq:=⟨_,rfl⟩
 rw [←hW3] at HL ⊢
 clear hW3
 obtain ⟨c0,c1,c2,c3,c4,c5,c6,c7,c8,c9,c10⟩:=XI.at HL.out.x
 go_wp2_with (first
  |(go_at_call 68;(with_reducible refine (HL.out.mov rfl hd hBl).mono ?_);rintro e w3 ⟨rfl,HL⟩)
  |(refine HL.out.st.load rfl (.tmp 3) rfl rfl ?_)
  |(refine HL.out.answer HL.out.st.ok rfl (.tmp 4) (.tmp 163) rfl rfl rfl ?_;intro W9 HS9 HF9)
)
 exact bodyPost_ret (results_st2 Tryz.results38 _ _ _ _ HS9.out rfl) rfl ⟨rfl,HF9.out⟩
theorem exec_2(a c z:Int)(wd sh:Bool)(d r:Nat)(dp rl im:Int)(s:ST)(w:World)(hs:s.ok)(hm:MachAt w)(hx:(Lit.int .i64 z).wf=true)(ha:(Lit.int .i64 a).wf=true)(hd:d<16)(hr:r<16)(hv:validM ⟨2,a,c,z,wd,sh,d,r,dp,rl,im⟩=true):
  Calls Tryz.prog 38 #[(XI.mk 2 a c z wd sh d r dp rl im).agg,s.agg] w fun e w'=>e= .returned (exV (execM ⟨2,a,c,z,wd,sh,d,r,dp,rl,im⟩ s))∧Fr No w w':=by
 have HV:Hid (∀W,Fr No w W→Calls Tryz.prog 33 #[(XI.mk 2 a c z wd sh d r dp rl im).agg] W fun e w'=>e= .returned (.bool true)∧Fr No W w'):=fun W hW=>by rw [←hv];exact valid_any _ hx W (hm.fr hW)
 have HE0:Hid (∀t1 t2 t3,_):=ESt.start (w:=w) (x:=⟨2,a,c,z,wd,sh,d,r,dp,rl,im⟩) hs
 have HM:=Lib.hid hm
 obtain ⟨A,hA⟩:∃A,s.reg d=A:=⟨_,rfl⟩
 obtain ⟨B,hB⟩:∃B,s.reg r=B:=⟨_,rfl⟩
 have hAl:A<18446744073709551616:=by rw [←hA];exact hs.reg d
 have hBl:B<18446744073709551616:=by rw [←hB];exact hs.reg r
 have hUl:u64I im<18446744073709551616:=u64I_lt im
 have hw:=u64I_wrap im
 have HQ:Hid (execM ⟨2,a,c,z,wd,sh,d,r,dp,rl,im⟩ s= .ok (s.set d (doM 0xb0 wd 0 (u64I im)))):=by
  subst hA
  subst hB
  unfold execM
  rw [if_neg (by rw [hv];simp)]
  exact Lib.hid rfl
 rw [HQ.out]
 clear hm hv
 generalize u64I im=U at*
 have d1:(0:Int)≤(d:Int):=by omega
 have d2:(d:Int)<16:=by omega
 have r1:(0:Int)≤(r:Int):=by omega
 have r2:(r:Int)<16:=by omega
 simp only [XI.agg,ST.agg,exV] at*
 go_enter Tryz.func38,Tryz.ntmps38
 go_upto_region 1 with fail
 refine wp_world (fun W1=>Hid (ESt w w.heap.size ⟨2,a,c,z,wd,sh,d,r,dp,rl,im⟩ s W1)) (by exact HE0.out _ _ _) ?_
 intro W1 HL
 clear HE0
 obtain ⟨c0,c1,c2,c3,c4,c5,c6,c7,c8,c9,c10⟩:=XI.at HL.out.x
 go_upto_region 3 with (go_at_call 33;(with_reducible refine (HV.out _ HL.out.fr).mono ?_);rintro e w2 ⟨rfl,hf2⟩;replace HL:=Lib.hid (HL.out.no hf2);clear hf2)
 clear c0 c1 c2 c3 c4 c5 c6 c7 c8 c9 c10
 obtain ⟨c0,c1,c2,c3,c4,c5,c6,c7,c8,c9,c10⟩:=XI.at HL.out.x
 have rd:=HL.out.st.reg hd
 have rr:=HL.out.st.reg hr
 rw [hA] at rd
 rw [hB] at rr
 go_quiet (fail)
 have HLn:=Lib.hid (HL.out.no ((Fr.refl _ _).drewN nq))
 clear HL c0 c1 c2 c3 c4 c5 c6 c7 c8 c9 c10 rd rr
 have HL:=HLn
 clear HLn
 obtain ⟨W3,hW3⟩:∃W3,W3=w2.drewN nq:=⟨_,rfl⟩
 rw [←hW3] at HL ⊢
 clear hW3
 obtain ⟨c0,c1,c2,c3,c4,c5,c6,c7,c8,c9,c10⟩:=XI.at HL.out.x
 go_wp2_with (first
  |(go_at_call 68;(with_reducible refine (HL.out.mov rfl hd hUl).mono ?_);rintro e w3 ⟨rfl,HL⟩)
  |(refine HL.out.st.load rfl (.tmp 3) rfl rfl ?_)
  |(refine HL.out.answer HL.out.st.ok rfl (.tmp 4) (.tmp 163) rfl rfl rfl ?_;intro W9 HS9 HF9)
)
 exact bodyPost_ret (results_st2 Tryz.results38 _ _ _ _ HS9.out rfl) rfl ⟨rfl,HF9.out⟩
theorem exec_3(a c z:Int)(wd sh:Bool)(d r:Nat)(dp rl im:Int)(s:ST)(w:World)(hs:s.ok)(hm:MachAt w)(hx:(Lit.int .i64 z).wf=true)(ha:(Lit.int .i64 a).wf=true)(hd:d<16)(hr:r<16)(hv:validM ⟨3,a,c,z,wd,sh,d,r,dp,rl,im⟩=true):
  Calls Tryz.prog 38 #[(XI.mk 3 a c z wd sh d r dp rl im).agg,s.agg] w fun e w'=>e= .returned (exV (execM ⟨3,a,c,z,wd,sh,d,r,dp,rl,im⟩ s))∧Fr No w w':=by
 have HV:Hid (∀W,Fr No w W→Calls Tryz.prog 33 #[(XI.mk 3 a c z wd sh d r dp rl im).agg] W fun e w'=>e= .returned (.bool true)∧Fr No W w'):=fun W hW=>by rw [←hv];exact valid_any _ hx W (hm.fr hW)
 have HE0:Hid (∀t1 t2 t3,_):=ESt.start (w:=w) (x:=⟨3,a,c,z,wd,sh,d,r,dp,rl,im⟩) hs
 have HM:=Lib.hid hm
 obtain ⟨A,hA⟩:∃A,s.reg d=A:=⟨_,rfl⟩
 obtain ⟨B,hB⟩:∃B,s.reg r=B:=⟨_,rfl⟩
 have hAl:A<18446744073709551616:=by rw [←hA];exact hs.reg d
 have hBl:B<18446744073709551616:=by rw [←hB];exact hs.reg r
 have hUl:u64I im<18446744073709551616:=u64I_lt im
 have hw:=u64I_wrap im
 have HQ:Hid (execM ⟨3,a,c,z,wd,sh,d,r,dp,rl,im⟩ s= .ok (s.set d (doM 0xb0 wd 0 (u64I im)))):=by
  subst hA
  subst hB
  unfold execM
  rw [if_neg (by rw [hv];simp)]
  exact Lib.hid rfl
 rw [HQ.out]
 clear hm hv
 generalize u64I im=U at*
 have d1:(0:Int)≤(d:Int):=by omega
 have d2:(d:Int)<16:=by omega
 have r1:(0:Int)≤(r:Int):=by omega
 have r2:(r:Int)<16:=by omega
 simp only [XI.agg,ST.agg,exV] at*
 go_enter Tryz.func38,Tryz.ntmps38
 go_upto_region 1 with fail
 refine wp_world (fun W1=>Hid (ESt w w.heap.size ⟨3,a,c,z,wd,sh,d,r,dp,rl,im⟩ s W1)) (by exact HE0.out _ _ _) ?_
 intro W1 HL
 clear HE0
 obtain ⟨c0,c1,c2,c3,c4,c5,c6,c7,c8,c9,c10⟩:=XI.at HL.out.x
 go_upto_region 3 with (go_at_call 33;(with_reducible refine (HV.out _ HL.out.fr).mono ?_);rintro e w2 ⟨rfl,hf2⟩;replace HL:=Lib.hid (HL.out.no hf2);clear hf2)
 clear c0 c1 c2 c3 c4 c5 c6 c7 c8 c9 c10
 obtain ⟨c0,c1,c2,c3,c4,c5,c6,c7,c8,c9,c10⟩:=XI.at HL.out.x
 have rd:=HL.out.st.reg hd
 have rr:=HL.out.st.reg hr
 rw [hA] at rd
 rw [hB] at rr
 go_quiet (fail)
 have HLn:=Lib.hid (HL.out.no ((Fr.refl _ _).drewN nq))
 clear HL c0 c1 c2 c3 c4 c5 c6 c7 c8 c9 c10 rd rr
 have HL:=HLn
 clear HLn
 obtain ⟨W3,hW3⟩:∃W3,W3=w2.drewN nq:=⟨_,rfl⟩
 rw [←hW3] at HL ⊢
 clear hW3
 obtain ⟨c0,c1,c2,c3,c4,c5,c6,c7,c8,c9,c10⟩:=XI.at HL.out.x
 go_wp2_with (first
  |(go_at_call 68;(with_reducible refine (HL.out.mov rfl hd hUl).mono ?_);rintro e w3 ⟨rfl,HL⟩)
  |(refine HL.out.st.load rfl (.tmp 3) rfl rfl ?_)
  |(refine HL.out.answer HL.out.st.ok rfl (.tmp 4) (.tmp 163) rfl rfl rfl ?_;intro W9 HS9 HF9)
)
 exact bodyPost_ret (results_st2 Tryz.results38 _ _ _ _ HS9.out rfl) rfl ⟨rfl,HF9.out⟩
theorem exec_4(a c z:Int)(wd sh:Bool)(d r:Nat)(dp rl im:Int)(s:ST)(w:World)(hs:s.ok)(hm:MachAt w)(hx:(Lit.int .i64 z).wf=true)(ha:(Lit.int .i64 a).wf=true)(hd:d<16)(hr:r<16)(h7:a≠7)(hv:validM ⟨4,a,c,z,wd,sh,d,r,dp,rl,im⟩=true):
  Calls Tryz.prog 38 #[(XI.mk 4 a c z wd sh d r dp rl im).agg,s.agg] w fun e w'=>e= .returned (exV (execM ⟨4,a,c,z,wd,sh,d,r,dp,rl,im⟩ s))∧Fr No w w':=by
 have HV:Hid (∀W,Fr No w W→Calls Tryz.prog 33 #[(XI.mk 4 a c z wd sh d r dp rl im).agg] W fun e w'=>e= .returned (.bool true)∧Fr No W w'):=fun W hW=>by rw [←hv];exact valid_any _ hx W (hm.fr hW)
 have HE0:Hid (∀t1 t2 t3,_):=ESt.start (w:=w) (x:=⟨4,a,c,z,wd,sh,d,r,dp,rl,im⟩) hs
 have HM:=Lib.hid hm
 obtain ⟨A,hA⟩:∃A,s.reg d=A:=⟨_,rfl⟩
 obtain ⟨B,hB⟩:∃B,s.reg r=B:=⟨_,rfl⟩
 have hAl:A<18446744073709551616:=by rw [←hA];exact hs.reg d
 have hBl:B<18446744073709551616:=by rw [←hB];exact hs.reg r
 have hUl:u64I im<18446744073709551616:=u64I_lt im
 have hw:=u64I_wrap im
 have q7:(a !=7)=true:=by rw [bne_iff_ne];exact h7
 have HQ:Hid (execM ⟨4,a,c,z,wd,sh,d,r,dp,rl,im⟩ s= .ok ((arithM s wd a A B).1.set d (doM 0xb0 wd 0 (arithM s wd a A B).2))):=by
  subst hA
  subst hB
  unfold execM
  rw [if_neg (by rw [hv];simp)]
  show Hid (Except.ok (if a=7 then _ else _)=_)
  rw [if_neg h7]
  exact Lib.hid rfl
 rw [HQ.out]
 clear hm hv
 generalize u64I im=U at*
 have HAR:Hid (∀W,ESt w w.heap.size ⟨4,a,c,z,wd,sh,d,r,dp,rl,im⟩ s W→Calls Tryz.prog 70 #[.pointer (some ⟨w.heap.size+1,0,none⟩), .bool wd, .int .i64 a, .int .u64 A, .int .u64 B] W fun e w'=>e= .returned (.int .u64 (arithM s wd a A B).2)∧Hid (ESt w w.heap.size ⟨4,a,c,z,wd,sh,d,r,dp,rl,im⟩ (arithM s wd a A B).1 w')):=fun W h=>h.arith HM.out wd a A B ha hAl hBl
 have hlt:(arithM s wd a A B).2<18446744073709551616:=doM_u64 (doesM a) wd A B
 clear h7
 generalize hq2:(arithM s wd a A B).2=q2 at*
 generalize hq1:(arithM s wd a A B).1=q1 at*
 clear hq1 hq2
 have d1:(0:Int)≤(d:Int):=by omega
 have d2:(d:Int)<16:=by omega
 have r1:(0:Int)≤(r:Int):=by omega
 have r2:(r:Int)<16:=by omega
 simp only [XI.agg,ST.agg,exV] at*
 go_enter Tryz.func38,Tryz.ntmps38
 go_upto_region 1 with fail
 refine wp_world (fun W1=>Hid (ESt w w.heap.size ⟨4,a,c,z,wd,sh,d,r,dp,rl,im⟩ s W1)) (by exact HE0.out _ _ _) ?_
 intro W1 HL
 clear HE0
 obtain ⟨c0,c1,c2,c3,c4,c5,c6,c7,c8,c9,c10⟩:=XI.at HL.out.x
 go_upto_region 3 with (go_at_call 33;(with_reducible refine (HV.out _ HL.out.fr).mono ?_);rintro e w2 ⟨rfl,hf2⟩;replace HL:=Lib.hid (HL.out.no hf2);clear hf2)
 clear c0 c1 c2 c3 c4 c5 c6 c7 c8 c9 c10
 obtain ⟨c0,c1,c2,c3,c4,c5,c6,c7,c8,c9,c10⟩:=XI.at HL.out.x
 have rd:=HL.out.st.reg hd
 have rr:=HL.out.st.reg hr
 rw [hA] at rd
 rw [hB] at rr
 go_quiet (fail)
 have HLn:=Lib.hid (HL.out.no ((Fr.refl _ _).drewN nq))
 clear HL c0 c1 c2 c3 c4 c5 c6 c7 c8 c9 c10 rd rr
 have HL:=HLn
 clear HLn
 obtain ⟨W3,hW3⟩:∃W3,W3=w2.drewN nq:=⟨_,rfl⟩
 rw [←hW3] at HL ⊢
 clear hW3
 obtain ⟨c0,c1,c2,c3,c4,c5,c6,c7,c8,c9,c10⟩:=XI.at HL.out.x
 go_wp2_with (first
  |(go_at_call 70;(with_reducible refine (HAR.out _ HL.out).mono ?_);rintro e w4 ⟨rfl,HL⟩;obtain ⟨c0,c1,c2,c3,c4,c5,c6,c7,c8,c9,c10⟩:=XI.at HL.out.x)
  |(go_at_call 68;(with_reducible refine (HL.out.mov rfl hd hlt).mono ?_);rintro e w3 ⟨rfl,HL⟩)
  |(refine HL.out.st.load rfl (.tmp 3) rfl rfl ?_)
  |(refine HL.out.answer HL.out.st.ok rfl (.tmp 4) (.tmp 163) rfl rfl rfl ?_;intro W9 HS9 HF9)
)
 exact bodyPost_ret (results_st2 Tryz.results38 _ _ _ _ HS9.out rfl) rfl ⟨rfl,HF9.out⟩
theorem exec_4c(a c z:Int)(wd sh:Bool)(d r:Nat)(dp rl im:Int)(s:ST)(w:World)(hs:s.ok)(hm:MachAt w)(hx:(Lit.int .i64 z).wf=true)(ha:(Lit.int .i64 a).wf=true)(hd:d<16)(hr:r<16)(h7:a=7)(hv:validM ⟨4,a,c,z,wd,sh,d,r,dp,rl,im⟩=true):
  Calls Tryz.prog 38 #[(XI.mk 4 a c z wd sh d r dp rl im).agg,s.agg] w fun e w'=>e= .returned (exV (execM ⟨4,a,c,z,wd,sh,d,r,dp,rl,im⟩ s))∧Fr No w w':=by
 have HV:Hid (∀W,Fr No w W→Calls Tryz.prog 33 #[(XI.mk 4 a c z wd sh d r dp rl im).agg] W fun e w'=>e= .returned (.bool true)∧Fr No W w'):=fun W hW=>by rw [←hv];exact valid_any _ hx W (hm.fr hW)
 have HE0:Hid (∀t1 t2 t3,_):=ESt.start (w:=w) (x:=⟨4,a,c,z,wd,sh,d,r,dp,rl,im⟩) hs
 have HM:=Lib.hid hm
 obtain ⟨A,hA⟩:∃A,s.reg d=A:=⟨_,rfl⟩
 obtain ⟨B,hB⟩:∃B,s.reg r=B:=⟨_,rfl⟩
 have hAl:A<18446744073709551616:=by rw [←hA];exact hs.reg d
 have hBl:B<18446744073709551616:=by rw [←hB];exact hs.reg r
 have hUl:u64I im<18446744073709551616:=u64I_lt im
 have hw:=u64I_wrap im
 have q7:(a !=7)=false:=by rw [h7];rfl
 have HQ:Hid (execM ⟨4,a,c,z,wd,sh,d,r,dp,rl,im⟩ s= .ok (arithM s wd a A B).1):=by
  subst hA
  subst hB
  unfold execM
  rw [if_neg (by rw [hv];simp)]
  show Hid (Except.ok (if a=7 then _ else _)=_)
  rw [if_pos h7]
  exact Lib.hid rfl
 rw [HQ.out]
 clear hm hv
 generalize u64I im=U at*
 have HAR:Hid (∀W,ESt w w.heap.size ⟨4,a,c,z,wd,sh,d,r,dp,rl,im⟩ s W→Calls Tryz.prog 70 #[.pointer (some ⟨w.heap.size+1,0,none⟩), .bool wd, .int .i64 a, .int .u64 A, .int .u64 B] W fun e w'=>e= .returned (.int .u64 (arithM s wd a A B).2)∧Hid (ESt w w.heap.size ⟨4,a,c,z,wd,sh,d,r,dp,rl,im⟩ (arithM s wd a A B).1 w')):=fun W h=>h.arith HM.out wd a A B ha hAl hBl
 have hlt:(arithM s wd a A B).2<18446744073709551616:=doM_u64 (doesM a) wd A B
 clear h7
 generalize hq2:(arithM s wd a A B).2=q2 at*
 generalize hq1:(arithM s wd a A B).1=q1 at*
 clear hq1 hq2
 have d1:(0:Int)≤(d:Int):=by omega
 have d2:(d:Int)<16:=by omega
 have r1:(0:Int)≤(r:Int):=by omega
 have r2:(r:Int)<16:=by omega
 simp only [XI.agg,ST.agg,exV] at*
 go_enter Tryz.func38,Tryz.ntmps38
 go_upto_region 1 with fail
 refine wp_world (fun W1=>Hid (ESt w w.heap.size ⟨4,a,c,z,wd,sh,d,r,dp,rl,im⟩ s W1)) (by exact HE0.out _ _ _) ?_
 intro W1 HL
 clear HE0
 obtain ⟨c0,c1,c2,c3,c4,c5,c6,c7,c8,c9,c10⟩:=XI.at HL.out.x
 go_upto_region 3 with (go_at_call 33;(with_reducible refine (HV.out _ HL.out.fr).mono ?_);rintro e w2 ⟨rfl,hf2⟩;replace HL:=Lib.hid (HL.out.no hf2);clear hf2)
 clear c0 c1 c2 c3 c4 c5 c6 c7 c8 c9 c10
 obtain ⟨c0,c1,c2,c3,c4,c5,c6,c7,c8,c9,c10⟩:=XI.at HL.out.x
 have rd:=HL.out.st.reg hd
 have rr:=HL.out.st.reg hr
 rw [hA] at rd
 rw [hB] at rr
 go_quiet (fail)
 have HLn:=Lib.hid (HL.out.no ((Fr.refl _ _).drewN nq))
 clear HL c0 c1 c2 c3 c4 c5 c6 c7 c8 c9 c10 rd rr
 have HL:=HLn
 clear HLn
 obtain ⟨W3,hW3⟩:∃W3,W3=w2.drewN nq:=⟨_,rfl⟩
 rw [←hW3] at HL ⊢
 clear hW3
 obtain ⟨c0,c1,c2,c3,c4,c5,c6,c7,c8,c9,c10⟩:=XI.at HL.out.x
 go_wp2_with (first
  |(go_at_call 70;(with_reducible refine (HAR.out _ HL.out).mono ?_);rintro e w4 ⟨rfl,HL⟩;obtain ⟨c0,c1,c2,c3,c4,c5,c6,c7,c8,c9,c10⟩:=XI.at HL.out.x)
  |(refine HL.out.st.load rfl (.tmp 3) rfl rfl ?_)
  |(refine HL.out.answer HL.out.st.ok rfl (.tmp 4) (.tmp 163) rfl rfl rfl ?_;intro W9 HS9 HF9)
)
 exact bodyPost_ret (results_st2 Tryz.results38 _ _ _ _ HS9.out rfl) rfl ⟨rfl,HF9.out⟩
theorem exec_5(a c z:Int)(wd sh:Bool)(d r:Nat)(dp rl im:Int)(s:ST)(w:World)(hs:s.ok)(hm:MachAt w)(hx:(Lit.int .i64 z).wf=true)(ha:(Lit.int .i64 a).wf=true)(hd:d<16)(hr:r<16)(h7:a≠7)(hv:validM ⟨5,a,c,z,wd,sh,d,r,dp,rl,im⟩=true):
  Calls Tryz.prog 38 #[(XI.mk 5 a c z wd sh d r dp rl im).agg,s.agg] w fun e w'=>e= .returned (exV (execM ⟨5,a,c,z,wd,sh,d,r,dp,rl,im⟩ s))∧Fr No w w':=by
 have HV:Hid (∀W,Fr No w W→Calls Tryz.prog 33 #[(XI.mk 5 a c z wd sh d r dp rl im).agg] W fun e w'=>e= .returned (.bool true)∧Fr No W w'):=fun W hW=>by rw [←hv];exact valid_any _ hx W (hm.fr hW)
 have HE0:Hid (∀t1 t2 t3,_):=ESt.start (w:=w) (x:=⟨5,a,c,z,wd,sh,d,r,dp,rl,im⟩) hs
 have HM:=Lib.hid hm
 obtain ⟨A,hA⟩:∃A,s.reg d=A:=⟨_,rfl⟩
 obtain ⟨B,hB⟩:∃B,s.reg r=B:=⟨_,rfl⟩
 have hAl:A<18446744073709551616:=by rw [←hA];exact hs.reg d
 have hBl:B<18446744073709551616:=by rw [←hB];exact hs.reg r
 have hUl:u64I im<18446744073709551616:=u64I_lt im
 have hw:=u64I_wrap im
 have q7:(a !=7)=true:=by rw [bne_iff_ne];exact h7
 have HQ:Hid (execM ⟨5,a,c,z,wd,sh,d,r,dp,rl,im⟩ s= .ok ((arithM s wd a A (u64I im)).1.set d (doM 0xb0 wd 0 (arithM s wd a A (u64I im)).2))):=by
  subst hA
  subst hB
  unfold execM
  rw [if_neg (by rw [hv];simp)]
  show Hid (Except.ok (if a=7 then _ else _)=_)
  rw [if_neg h7]
  exact Lib.hid rfl
 rw [HQ.out]
 clear hm hv
 generalize u64I im=U at*
 have HAR:Hid (∀W,ESt w w.heap.size ⟨5,a,c,z,wd,sh,d,r,dp,rl,im⟩ s W→Calls Tryz.prog 70 #[.pointer (some ⟨w.heap.size+1,0,none⟩), .bool wd, .int .i64 a, .int .u64 A, .int .u64 U] W fun e w'=>e= .returned (.int .u64 (arithM s wd a A U).2)∧Hid (ESt w w.heap.size ⟨5,a,c,z,wd,sh,d,r,dp,rl,im⟩ (arithM s wd a A U).1 w')):=fun W h=>h.arith HM.out wd a A U ha hAl hUl
 have hlt:(arithM s wd a A U).2<18446744073709551616:=doM_u64 (doesM a) wd A U
 clear h7
 generalize hq2:(arithM s wd a A U).2=q2 at*
 generalize hq1:(arithM s wd a A U).1=q1 at*
 clear hq1 hq2
 have d1:(0:Int)≤(d:Int):=by omega
 have d2:(d:Int)<16:=by omega
 have r1:(0:Int)≤(r:Int):=by omega
 have r2:(r:Int)<16:=by omega
 simp only [XI.agg,ST.agg,exV] at*
 go_enter Tryz.func38,Tryz.ntmps38
 go_upto_region 1 with fail
 refine wp_world (fun W1=>Hid (ESt w w.heap.size ⟨5,a,c,z,wd,sh,d,r,dp,rl,im⟩ s W1)) (by exact HE0.out _ _ _) ?_
 intro W1 HL
 clear HE0
 obtain ⟨c0,c1,c2,c3,c4,c5,c6,c7,c8,c9,c10⟩:=XI.at HL.out.x
 go_upto_region 3 with (go_at_call 33;(with_reducible refine (HV.out _ HL.out.fr).mono ?_);rintro e w2 ⟨rfl,hf2⟩;replace HL:=Lib.hid (HL.out.no hf2);clear hf2)
 clear c0 c1 c2 c3 c4 c5 c6 c7 c8 c9 c10
 obtain ⟨c0,c1,c2,c3,c4,c5,c6,c7,c8,c9,c10⟩:=XI.at HL.out.x
 have rd:=HL.out.st.reg hd
 have rr:=HL.out.st.reg hr
 rw [hA] at rd
 rw [hB] at rr
 go_quiet (fail)
 have HLn:=Lib.hid (HL.out.no ((Fr.refl _ _).drewN nq))
 clear HL c0 c1 c2 c3 c4 c5 c6 c7 c8 c9 c10 rd rr
 have HL:=HLn
 clear HLn
 obtain ⟨W3,hW3⟩:∃W3,W3=w2.drewN nq:=⟨_,rfl⟩
 rw [←hW3] at HL ⊢
 clear hW3
 obtain ⟨c0,c1,c2,c3,c4,c5,c6,c7,c8,c9,c10⟩:=XI.at HL.out.x
 go_wp2_with (first
  |(go_at_call 70;(with_reducible refine (HAR.out _ HL.out).mono ?_);rintro e w4 ⟨rfl,HL⟩;obtain ⟨c0,c1,c2,c3,c4,c5,c6,c7,c8,c9,c10⟩:=XI.at HL.out.x)
  |(go_at_call 68;(with_reducible refine (HL.out.mov rfl hd hlt).mono ?_);rintro e w3 ⟨rfl,HL⟩)
  |(refine HL.out.st.load rfl (.tmp 3) rfl rfl ?_)
  |(refine HL.out.answer HL.out.st.ok rfl (.tmp 4) (.tmp 163) rfl rfl rfl ?_;intro W9 HS9 HF9)
)
 exact bodyPost_ret (results_st2 Tryz.results38 _ _ _ _ HS9.out rfl) rfl ⟨rfl,HF9.out⟩
theorem exec_5c(a c z:Int)(wd sh:Bool)(d r:Nat)(dp rl im:Int)(s:ST)(w:World)(hs:s.ok)(hm:MachAt w)(hx:(Lit.int .i64 z).wf=true)(ha:(Lit.int .i64 a).wf=true)(hd:d<16)(hr:r<16)(h7:a=7)(hv:validM ⟨5,a,c,z,wd,sh,d,r,dp,rl,im⟩=true):
  Calls Tryz.prog 38 #[(XI.mk 5 a c z wd sh d r dp rl im).agg,s.agg] w fun e w'=>e= .returned (exV (execM ⟨5,a,c,z,wd,sh,d,r,dp,rl,im⟩ s))∧Fr No w w':=by
 have HV:Hid (∀W,Fr No w W→Calls Tryz.prog 33 #[(XI.mk 5 a c z wd sh d r dp rl im).agg] W fun e w'=>e= .returned (.bool true)∧Fr No W w'):=fun W hW=>by rw [←hv];exact valid_any _ hx W (hm.fr hW)
 have HE0:Hid (∀t1 t2 t3,_):=ESt.start (w:=w) (x:=⟨5,a,c,z,wd,sh,d,r,dp,rl,im⟩) hs
 have HM:=Lib.hid hm
 obtain ⟨A,hA⟩:∃A,s.reg d=A:=⟨_,rfl⟩
 obtain ⟨B,hB⟩:∃B,s.reg r=B:=⟨_,rfl⟩
 have hAl:A<18446744073709551616:=by rw [←hA];exact hs.reg d
 have hBl:B<18446744073709551616:=by rw [←hB];exact hs.reg r
 have hUl:u64I im<18446744073709551616:=u64I_lt im
 have hw:=u64I_wrap im
 have q7:(a !=7)=false:=by rw [h7];rfl
 have HQ:Hid (execM ⟨5,a,c,z,wd,sh,d,r,dp,rl,im⟩ s= .ok (arithM s wd a A (u64I im)).1):=by
  subst hA
  subst hB
  unfold execM
  rw [if_neg (by rw [hv];simp)]
  show Hid (Except.ok (if a=7 then _ else _)=_)
  rw [if_pos h7]
  exact Lib.hid rfl
 rw [HQ.out]
 clear hm hv
 generalize u64I im=U at*
 have HAR:Hid (∀W,ESt w w.heap.size ⟨5,a,c,z,wd,sh,d,r,dp,rl,im⟩ s W→Calls Tryz.prog 70 #[.pointer (some ⟨w.heap.size+1,0,none⟩), .bool wd, .int .i64 a, .int .u64 A, .int .u64 U] W fun e w'=>e= .returned (.int .u64 (arithM s wd a A U).2)∧Hid (ESt w w.heap.size ⟨5,a,c,z,wd,sh,d,r,dp,rl,im⟩ (arithM s wd a A U).1 w')):=fun W h=>h.arith HM.out wd a A U ha hAl hUl
 have hlt:(arithM s wd a A U).2<18446744073709551616:=doM_u64 (doesM a) wd A U
 clear h7
 generalize hq2:(arithM s wd a A U).2=q2 at*
 generalize hq1:(arithM s wd a A U).1=q1 at*
 clear hq1 hq2
 have d1:(0:Int)≤(d:Int):=by omega
 have d2:(d:Int)<16:=by omega
 have r1:(0:Int)≤(r:Int):=by omega
 have r2:(r:Int)<16:=by omega
 simp only [XI.agg,ST.agg,exV] at*
 go_enter Tryz.func38,Tryz.ntmps38
 go_upto_region 1 with fail
 refine wp_world (fun W1=>Hid (ESt w w.heap.size ⟨5,a,c,z,wd,sh,d,r,dp,rl,im⟩ s W1)) (by exact HE0.out _ _ _) ?_
 intro W1 HL
 clear HE0
 obtain ⟨c0,c1,c2,c3,c4,c5,c6,c7,c8,c9,c10⟩:=XI.at HL.out.x
 go_upto_region 3 with (go_at_call 33;(with_reducible refine (HV.out _ HL.out.fr).mono ?_);rintro e w2 ⟨rfl,hf2⟩;replace HL:=Lib.hid (HL.out.no hf2);clear hf2)
 clear c0 c1 c2 c3 c4 c5 c6 c7 c8 c9 c10
 obtain ⟨c0,c1,c2,c3,c4,c5,c6,c7,c8,c9,c10⟩:=XI.at HL.out.x
 have rd:=HL.out.st.reg hd
 have rr:=HL.out.st.reg hr
 rw [hA] at rd
 rw [hB] at rr
 go_quiet (fail)
 have HLn:=Lib.hid (HL.out.no ((Fr.refl _ _).drewN nq))
 clear HL c0 c1 c2 c3 c4 c5 c6 c7 c8 c9 c10 rd rr
 have HL:=HLn
 clear HLn
 obtain ⟨W3,hW3⟩:∃W3,W3=w2.drewN nq:=⟨_,rfl⟩
 rw [←hW3] at HL ⊢
 clear hW3
 obtain ⟨c0,c1,c2,c3,c4,c5,c6,c7,c8,c9,c10⟩:=XI.at HL.out.x
 go_wp2_with (first
  |(go_at_call 70;(with_reducible refine (HAR.out _ HL.out).mono ?_);rintro e w4 ⟨rfl,HL⟩;obtain ⟨c0,c1,c2,c3,c4,c5,c6,c7,c8,c9,c10⟩:=XI.at HL.out.x)
  |(refine HL.out.st.load rfl (.tmp 3) rfl rfl ?_)
  |(refine HL.out.answer HL.out.st.ok rfl (.tmp 4) (.tmp 163) rfl rfl rfl ?_;intro W9 HS9 HF9)
)
 exact bodyPost_ret (results_st2 Tryz.results38 _ _ _ _ HS9.out rfl) rfl ⟨rfl,HF9.out⟩
theorem exec_6(a c z:Int)(wd sh:Bool)(d r:Nat)(dp rl im:Int)(s:ST)(w:World)(hs:s.ok)(hm:MachAt w)(hx:(Lit.int .i64 z).wf=true)(ha:(Lit.int .i64 a).wf=true)(hd:d<16)(hr:r<16)(hv:validM ⟨6,a,c,z,wd,sh,d,r,dp,rl,im⟩=true):
  Calls Tryz.prog 38 #[(XI.mk 6 a c z wd sh d r dp rl im).agg,s.agg] w fun e w'=>e= .returned (exV (execM ⟨6,a,c,z,wd,sh,d,r,dp,rl,im⟩ s))∧Fr No w w':=by
 have HV:Hid (∀W,Fr No w W→Calls Tryz.prog 33 #[(XI.mk 6 a c z wd sh d r dp rl im).agg] W fun e w'=>e= .returned (.bool true)∧Fr No W w'):=fun W hW=>by rw [←hv];exact valid_any _ hx W (hm.fr hW)
 have HE0:Hid (∀t1 t2 t3,_):=ESt.start (w:=w) (x:=⟨6,a,c,z,wd,sh,d,r,dp,rl,im⟩) hs
 have HM:=Lib.hid hm
 obtain ⟨A,hA⟩:∃A,s.reg d=A:=⟨_,rfl⟩
 obtain ⟨B,hB⟩:∃B,s.reg r=B:=⟨_,rfl⟩
 have hAl:A<18446744073709551616:=by rw [←hA];exact hs.reg d
 have hBl:B<18446744073709551616:=by rw [←hB];exact hs.reg r
 have hUl:u64I im<18446744073709551616:=u64I_lt im
 have hw:=u64I_wrap im
 have HQ:Hid (execM ⟨6,a,c,z,wd,sh,d,r,dp,rl,im⟩ s= .ok (arithM s wd 4 A B).1):=by
  subst hA
  subst hB
  unfold execM
  rw [if_neg (by rw [hv];simp)]
  exact Lib.hid rfl
 rw [HQ.out]
 clear hm hv
 generalize u64I im=U at*
 have HAR:Hid (∀W,ESt w w.heap.size ⟨6,a,c,z,wd,sh,d,r,dp,rl,im⟩ s W→Calls Tryz.prog 70 #[.pointer (some ⟨w.heap.size+1,0,none⟩), .bool wd, .int .i64 4, .int .u64 A, .int .u64 B] W fun e w'=>e= .returned (.int .u64 (arithM s wd 4 A B).2)∧Hid (ESt w w.heap.size ⟨6,a,c,z,wd,sh,d,r,dp,rl,im⟩ (arithM s wd 4 A B).1 w')):=fun W h=>h.arith HM.out wd 4 A B (by decide) hAl hBl
 have hlt:(arithM s wd 4 A B).2<18446744073709551616:=doM_u64 (doesM 4) wd A B
 generalize hq2:(arithM s wd 4 A B).2=q2 at*
 generalize hq1:(arithM s wd 4 A B).1=q1 at*
 clear hq1 hq2
 have d1:(0:Int)≤(d:Int):=by omega
 have d2:(d:Int)<16:=by omega
 have r1:(0:Int)≤(r:Int):=by omega
 have r2:(r:Int)<16:=by omega
 simp only [XI.agg,ST.agg,exV] at*
 go_enter Tryz.func38,Tryz.ntmps38
 go_upto_region 1 with fail
 refine wp_world (fun W1=>Hid (ESt w w.heap.size ⟨6,a,c,z,wd,sh,d,r,dp,rl,im⟩ s W1)) (by exact HE0.out _ _ _) ?_
 intro W1 HL
 clear HE0
 obtain ⟨c0,c1,c2,c3,c4,c5,c6,c7,c8,c9,c10⟩:=XI.at HL.out.x
 go_upto_region 3 with (go_at_call 33;(with_reducible refine (HV.out _ HL.out.fr).mono ?_);rintro e w2 ⟨rfl,hf2⟩;replace HL:=Lib.hid (HL.out.no hf2);clear hf2)
 clear c0 c1 c2 c3 c4 c5 c6 c7 c8 c9 c10
 obtain ⟨c0,c1,c2,c3,c4,c5,c6,c7,c8,c9,c10⟩:=XI.at HL.out.x
 have rd:=HL.out.st.reg hd
 have rr:=HL.out.st.reg hr
 rw [hA] at rd
 rw [hB] at rr
 go_quiet (fail)
 have HLn:=Lib.hid (HL.out.no ((Fr.refl _ _).drewN nq))
 clear HL c0 c1 c2 c3 c4 c5 c6 c7 c8 c9 c10 rd rr
 have HL:=HLn
 clear HLn
 obtain ⟨W3,hW3⟩:∃W3,W3=w2.drewN nq:=⟨_,rfl⟩
 rw [←hW3] at HL ⊢
 clear hW3
 obtain ⟨c0,c1,c2,c3,c4,c5,c6,c7,c8,c9,c10⟩:=XI.at HL.out.x
 go_wp2_with (first
  |(go_at_call 70;(with_reducible refine (HAR.out _ HL.out).mono ?_);rintro e w4 ⟨rfl,HL⟩;obtain ⟨c0,c1,c2,c3,c4,c5,c6,c7,c8,c9,c10⟩:=XI.at HL.out.x)
  |(refine HL.out.st.load rfl (.tmp 3) rfl rfl ?_)
  |(refine HL.out.answer HL.out.st.ok rfl (.tmp 4) (.tmp 163) rfl rfl rfl ?_;intro W9 HS9 HF9)
)
 exact bodyPost_ret (results_st2 Tryz.results38 _ _ _ _ HS9.out rfl) rfl ⟨rfl,HF9.out⟩
theorem exec_7(a c z:Int)(wd sh:Bool)(d r:Nat)(dp rl im:Int)(s:ST)(w:World)(hs:s.ok)(hm:MachAt w)(hx:(Lit.int .i64 z).wf=true)(ha:(Lit.int .i64 a).wf=true)(hd:d<16)(hr:r<16)(hv:validM ⟨7,a,c,z,wd,sh,d,r,dp,rl,im⟩=true):
  Calls Tryz.prog 38 #[(XI.mk 7 a c z wd sh d r dp rl im).agg,s.agg] w fun e w'=>e= .returned (exV (execM ⟨7,a,c,z,wd,sh,d,r,dp,rl,im⟩ s))∧Fr No w w':=by
 have HV:Hid (∀W,Fr No w W→Calls Tryz.prog 33 #[(XI.mk 7 a c z wd sh d r dp rl im).agg] W fun e w'=>e= .returned (.bool true)∧Fr No W w'):=fun W hW=>by rw [←hv];exact valid_any _ hx W (hm.fr hW)
 have HE0:Hid (∀t1 t2 t3,_):=ESt.start (w:=w) (x:=⟨7,a,c,z,wd,sh,d,r,dp,rl,im⟩) hs
 have HM:=Lib.hid hm
 obtain ⟨A,hA⟩:∃A,s.reg d=A:=⟨_,rfl⟩
 obtain ⟨B,hB⟩:∃B,s.reg r=B:=⟨_,rfl⟩
 have hAl:A<18446744073709551616:=by rw [←hA];exact hs.reg d
 have hBl:B<18446744073709551616:=by rw [←hB];exact hs.reg r
 have hUl:u64I im<18446744073709551616:=u64I_lt im
 have hw:=u64I_wrap im
 have HQ:Hid (execM ⟨7,a,c,z,wd,sh,d,r,dp,rl,im⟩ s= .ok ((arithM s wd 5 0 A).1.set d (doM 0xb0 wd 0 (arithM s wd 5 0 A).2))):=by
  subst hA
  subst hB
  unfold execM
  rw [if_neg (by rw [hv];simp)]
  exact Lib.hid rfl
 rw [HQ.out]
 clear hm hv
 generalize u64I im=U at*
 have HAR:Hid (∀W,ESt w w.heap.size ⟨7,a,c,z,wd,sh,d,r,dp,rl,im⟩ s W→Calls Tryz.prog 70 #[.pointer (some ⟨w.heap.size+1,0,none⟩), .bool wd, .int .i64 5, .int .u64 0, .int .u64 A] W fun e w'=>e= .returned (.int .u64 (arithM s wd 5 0 A).2)∧Hid (ESt w w.heap.size ⟨7,a,c,z,wd,sh,d,r,dp,rl,im⟩ (arithM s wd 5 0 A).1 w')):=fun W h=>h.arith HM.out wd 5 0 A (by decide) (by decide) hAl
 have hlt:(arithM s wd 5 0 A).2<18446744073709551616:=doM_u64 (doesM 5) wd 0 A
 generalize hq2:(arithM s wd 5 0 A).2=q2 at*
 generalize hq1:(arithM s wd 5 0 A).1=q1 at*
 clear hq1 hq2
 have d1:(0:Int)≤(d:Int):=by omega
 have d2:(d:Int)<16:=by omega
 have r1:(0:Int)≤(r:Int):=by omega
 have r2:(r:Int)<16:=by omega
 simp only [XI.agg,ST.agg,exV] at*
 go_enter Tryz.func38,Tryz.ntmps38
 go_upto_region 1 with fail
 refine wp_world (fun W1=>Hid (ESt w w.heap.size ⟨7,a,c,z,wd,sh,d,r,dp,rl,im⟩ s W1)) (by exact HE0.out _ _ _) ?_
 intro W1 HL
 clear HE0
 obtain ⟨c0,c1,c2,c3,c4,c5,c6,c7,c8,c9,c10⟩:=XI.at HL.out.x
 go_upto_region 3 with (go_at_call 33;(with_reducible refine (HV.out _ HL.out.fr).mono ?_);rintro e w2 ⟨rfl,hf2⟩;replace HL:=Lib.hid (HL.out.no hf2);clear hf2)
 clear c0 c1 c2 c3 c4 c5 c6 c7 c8 c9 c10
 obtain ⟨c0,c1,c2,c3,c4,c5,c6,c7,c8,c9,c10⟩:=XI.at HL.out.x
 have rd:=HL.out.st.reg hd
 have rr:=HL.out.st.reg hr
 rw [hA] at rd
 rw [hB] at rr
 go_quiet (fail)
 have HLn:=Lib.hid (HL.out.no ((Fr.refl _ _).drewN nq))
 clear HL c0 c1 c2 c3 c4 c5 c6 c7 c8 c9 c10 rd rr
 have HL:=HLn
 clear HLn
 obtain ⟨W3,hW3⟩:∃W3,W3=w2.drewN nq:=⟨_,rfl⟩
 rw [←hW3] at HL ⊢
 clear hW3
 obtain ⟨c0,c1,c2,c3,c4,c5,c6,c7,c8,c9,c10⟩:=XI.at HL.out.x
 go_wp2_with (first
  |(go_at_call 70;(with_reducible refine (HAR.out _ HL.out).mono ?_);rintro e w4 ⟨rfl,HL⟩;obtain ⟨c0,c1,c2,c3,c4,c5,c6,c7,c8,c9,c10⟩:=XI.at HL.out.x)
  |(go_at_call 68;(with_reducible refine (HL.out.mov rfl hd hlt).mono ?_);rintro e w3 ⟨rfl,HL⟩)
  |(refine HL.out.st.load rfl (.tmp 3) rfl rfl ?_)
  |(refine HL.out.answer HL.out.st.ok rfl (.tmp 4) (.tmp 163) rfl rfl rfl ?_;intro W9 HS9 HF9)
)
 exact bodyPost_ret (results_st2 Tryz.results38 _ _ _ _ HS9.out rfl) rfl ⟨rfl,HF9.out⟩
end Go.Proofs.YtjcgmhlbkheadaaGreatDoor
