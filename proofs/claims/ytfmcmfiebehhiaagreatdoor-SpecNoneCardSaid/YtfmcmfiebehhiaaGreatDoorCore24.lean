/- package cpu: Exec. (printed by mkexec.py) package cpu: Exec: 8 to 12, 21, the others. (printed by mkexec.py) package cpu: Exec of whatever. firewalllaw09.called. A world, as the machine uses it. -/
import Derived.Test.YtfmcmfiebehhiaaGreatDoorCore23
import Derived.Test.YtfmcmfiebehhiaaGreatDoorCore16
set_option linter.all false
set_option linter.unusedVariables false
set_option linter.unusedSimpArgs false
set_option maxRecDepth 100000
set_option maxHeartbeats 2000000
namespace Go.Proofs.YtfmcmfiebehhiaaGreatDoor
open Go.Proofs.Tryz
open Go.RowKit
theorem times_lt(wide a b):(timesM wide a b).1<18446744073709551616∧(timesM wide a b).2<18446744073709551616:=by
 have hW:=word_pos wide
 have hl:=word_le wide
 refine ⟨Nat.lt_of_lt_of_le (Nat.mod_lt _ hW) hl,Nat.lt_of_lt_of_le ((Nat.div_lt_iff_lt_mul hW).2 ?_) hl⟩
 exact Nat.mul_lt_mul'' (Nat.mod_lt _ hW) (Nat.mod_lt _ hW)
theorem part_lt(wide){hi lo y u v}(h:partM wide hi lo y=some (u,v)):u<18446744073709551616∧v<18446744073709551616:=by
 have hW:=word_pos wide
 have hl:=word_le wide
 unfold partM at h
 simp only at h
 split at h
 ·cases h
 ·rename_i hc
  obtain ⟨rfl,rfl⟩:=Prod.mk.inj (Option.some.inj h)
  have h2:hi%wordN wide<y%wordN wide:=by omega
  have h3:0<y%wordN wide:=by omega
  have h4:y%wordN wide<wordN wide:=Nat.mod_lt _ hW
  refine ⟨Nat.lt_of_lt_of_le (div_lt_of h3 (hi_lo h2 (Nat.mod_lt _ hW))) hl,Nat.lt_of_lt_of_le (Nat.lt_trans (Nat.mod_lt _ h3) h4) hl⟩
theorem exec_2(a c z:Int)(wd sh:Bool)(d r:Nat)(dp rl im:Int)(s:ST)(w:World)(hs:s.ok)(hm:MachAt w)(hx:(Lit.int .i64 z).wf=true)(ha:(Lit.int .i64 a).wf=true)(hd:d<16)(hr:r<16)(hv:validM ⟨2,a,c,z,wd,sh,d,r,dp,rl,im⟩=true):
  Calls prog 77 #[(XI.mk 2 a c z wd sh d r dp rl im).agg,s.agg] w fun e w'=>e= .returned (exV (execM ⟨2,a,c,z,wd,sh,d,r,dp,rl,im⟩ s))∧Fr No w w':=by
 have HV:Hid (∀W,Fr No w W→Calls prog 69 #[(XI.mk 2 a c z wd sh d r dp rl im).agg] W fun e w'=>e= .returned (.bool true)∧Fr No W w'):=fun W hW=>by rw [←hv];exact valid_any _ hx W (hm.fr hW)
 have HE0:Hid (∀t1 t2 t3,_):=ESt.start (w:=w) (x:=⟨2,a,c,z,wd,sh,d,r,dp,rl,im⟩) hs
 have HM:=Lib.hid hm
 obtain ⟨A,hA⟩:∃A,s.reg d=A:=⟨_,rfl⟩
 obtain ⟨B,hB⟩:∃B,s.reg r=B:=⟨_,rfl⟩
 have hAl:A<18446744073709551616:=by rw [←hA];exact hs.reg d
 have hBl:B<18446744073709551616:=by rw [←hB];exact hs.reg r
 have hUl:u64I im<18446744073709551616:=u64I_lt im
 have hw:=u64I_wrap im
 have HQ:Hid (execM ⟨2,a,c,z,wd,sh,d,r,dp,rl,im⟩ s= .ok (s.set d (doM 0xb0 wd 0 (u64I im)))):=by
  subst hA
  subst hB
  unfold execM
  rw [if_neg (by rw [hv];simp)]
  exact Lib.hid rfl
 rw [HQ.out]
 clear hm hv
 generalize u64I im=U at*
 have d1:(0:Int)≤(d:Int):=by omega
 have d2:(d:Int)<16:=by omega
 have r1:(0:Int)≤(r:Int):=by omega
 have r2:(r:Int)<16:=by omega
 simp only [XI.agg,ST.agg,exV] at*
 go_enter func77,ntmps77
 go_upto_region 1 with fail
 refine wp_world (fun W1=>Hid (ESt w w.heap.size ⟨2,a,c,z,wd,sh,d,r,dp,rl,im⟩ s W1)) (by exact HE0.out _ _ _) ?_
 intro W1 HL
 clear HE0
 obtain ⟨c0,c1,c2,c3,c4,c5,c6,c7,c8,c9,c10⟩:=XI.at HL.out.x
 go_upto_region 3 with (go_at_call 69;(with_reducible refine (HV.out _ HL.out.fr).mono ?_);rintro e w2 ⟨rfl,hf2⟩;replace HL:=Lib.hid (HL.out.no hf2);clear hf2)
 clear c0 c1 c2 c3 c4 c5 c6 c7 c8 c9 c10
 obtain ⟨c0,c1,c2,c3,c4,c5,c6,c7,c8,c9,c10⟩:=XI.at HL.out.x
 have rd:=HL.out.st.reg hd
 have rr:=HL.out.st.reg hr
 rw [hA] at rd
 rw [hB] at rr
 go_quiet (fail)
 have HLn:=Lib.hid (HL.out.no ((Fr.refl _ _).drewN nq))
 clear HL c0 c1 c2 c3 c4 c5 c6 c7 c8 c9 c10 rd rr
 have HL:=HLn
 clear HLn
 obtain ⟨W3,hW3⟩:∃W3,W3=w2.drewN nq:=⟨_,rfl⟩
 rw [←hW3] at HL ⊢
 clear hW3
 obtain ⟨c0,c1,c2,c3,c4,c5,c6,c7,c8,c9,c10⟩:=XI.at HL.out.x
 go_wp2_with (first
  |(go_at_call 116;(with_reducible refine (HL.out.mov rfl hd hUl).mono ?_);rintro e w3 ⟨rfl,HL⟩)
  |(refine HL.out.st.load rfl (.tmp 3) rfl rfl ?_)
  |(refine HL.out.answer HL.out.st.ok rfl (.tmp 4) (.tmp 163) rfl rfl rfl ?_;intro W9 HS9 HF9)
)
 exact bodyPost_ret (results_st2 results77 _ _ _ _ HS9.out rfl) rfl ⟨rfl,HF9.out⟩
theorem exec_3(a c z:Int)(wd sh:Bool)(d r:Nat)(dp rl im:Int)(s:ST)(w:World)(hs:s.ok)(hm:MachAt w)(hx:(Lit.int .i64 z).wf=true)(ha:(Lit.int .i64 a).wf=true)(hd:d<16)(hr:r<16)(hv:validM ⟨3,a,c,z,wd,sh,d,r,dp,rl,im⟩=true):
  Calls prog 77 #[(XI.mk 3 a c z wd sh d r dp rl im).agg,s.agg] w fun e w'=>e= .returned (exV (execM ⟨3,a,c,z,wd,sh,d,r,dp,rl,im⟩ s))∧Fr No w w':=by
 have HV:Hid (∀W,Fr No w W→Calls prog 69 #[(XI.mk 3 a c z wd sh d r dp rl im).agg] W fun e w'=>e= .returned (.bool true)∧Fr No W w'):=fun W hW=>by rw [←hv];exact valid_any _ hx W (hm.fr hW)
 have HE0:Hid (∀t1 t2 t3,_):=ESt.start (w:=w) (x:=⟨3,a,c,z,wd,sh,d,r,dp,rl,im⟩) hs
 have HM:=Lib.hid hm
 obtain ⟨A,hA⟩:∃A,s.reg d=A:=⟨_,rfl⟩
 obtain ⟨B,hB⟩:∃B,s.reg r=B:=⟨_,rfl⟩
 have hAl:A<18446744073709551616:=by rw [←hA];exact hs.reg d
 have hBl:B<18446744073709551616:=by rw [←hB];exact hs.reg r
 have hUl:u64I im<18446744073709551616:=u64I_lt im
 have hw:=u64I_wrap im
 have HQ:Hid (execM ⟨3,a,c,z,wd,sh,d,r,dp,rl,im⟩ s= .ok (s.set d (doM 0xb0 wd 0 (u64I im)))):=by
  subst hA
  subst hB
  unfold execM
  rw [if_neg (by rw [hv];simp)]
  exact Lib.hid rfl
 rw [HQ.out]
 clear hm hv
 generalize u64I im=U at*
 have d1:(0:Int)≤(d:Int):=by omega
 have d2:(d:Int)<16:=by omega
 have r1:(0:Int)≤(r:Int):=by omega
 have r2:(r:Int)<16:=by omega
 simp only [XI.agg,ST.agg,exV] at*
 go_enter func77,ntmps77
 go_upto_region 1 with fail
 refine wp_world (fun W1=>Hid (ESt w w.heap.size ⟨3,a,c,z,wd,sh,d,r,dp,rl,im⟩ s W1)) (by exact HE0.out _ _ _) ?_
 intro W1 HL
 clear HE0
 obtain ⟨c0,c1,c2,c3,c4,c5,c6,c7,c8,c9,c10⟩:=XI.at HL.out.x
 go_upto_region 3 with (go_at_call 69;(with_reducible refine (HV.out _ HL.out.fr).mono ?_);rintro e w2 ⟨rfl,hf2⟩;replace HL:=Lib.hid (HL.out.no hf2);clear hf2)
 clear c0 c1 c2 c3 c4 c5 c6 c7 c8 c9 c10
 obtain ⟨c0,c1,c2,c3,c4,c5,c6,c7,c8,c9,c10⟩:=XI.at HL.out.x
 have rd:=HL.out.st.reg hd
 have rr:=HL.out.st.reg hr
 rw [hA] at rd
 rw [hB] at rr
 go_quiet (fail)
 have HLn:=Lib.hid (HL.out.no ((Fr.refl _ _).drewN nq))
 clear HL c0 c1 c2 c3 c4 c5 c6 c7 c8 c9 c10 rd rr
 have HL:=HLn
 clear HLn
 obtain ⟨W3,hW3⟩:∃W3,W3=w2.drewN nq:=⟨_,rfl⟩
 rw [←hW3] at HL ⊢
 clear hW3
 obtain ⟨c0,c1,c2,c3,c4,c5,c6,c7,c8,c9,c10⟩:=XI.at HL.out.x
 go_wp2_with (first
  |(go_at_call 116;(with_reducible refine (HL.out.mov rfl hd hUl).mono ?_);rintro e w3 ⟨rfl,HL⟩)
  |(refine HL.out.st.load rfl (.tmp 3) rfl rfl ?_)
  |(refine HL.out.answer HL.out.st.ok rfl (.tmp 4) (.tmp 163) rfl rfl rfl ?_;intro W9 HS9 HF9)
)
 exact bodyPost_ret (results_st2 results77 _ _ _ _ HS9.out rfl) rfl ⟨rfl,HF9.out⟩
theorem exec_4(a c z:Int)(wd sh:Bool)(d r:Nat)(dp rl im:Int)(s:ST)(w:World)(hs:s.ok)(hm:MachAt w)(hx:(Lit.int .i64 z).wf=true)(ha:(Lit.int .i64 a).wf=true)(hd:d<16)(hr:r<16)(h7:a≠7)(hv:validM ⟨4,a,c,z,wd,sh,d,r,dp,rl,im⟩=true):
  Calls prog 77 #[(XI.mk 4 a c z wd sh d r dp rl im).agg,s.agg] w fun e w'=>e= .returned (exV (execM ⟨4,a,c,z,wd,sh,d,r,dp,rl,im⟩ s))∧Fr No w w':=by
 have HV:Hid (∀W,Fr No w W→Calls prog 69 #[(XI.mk 4 a c z wd sh d r dp rl im).agg] W fun e w'=>e= .returned (.bool true)∧Fr No W w'):=fun W hW=>by rw [←hv];exact valid_any _ hx W (hm.fr hW)
 have HE0:Hid (∀t1 t2 t3,_):=ESt.start (w:=w) (x:=⟨4,a,c,z,wd,sh,d,r,dp,rl,im⟩) hs
 have HM:=Lib.hid hm
 obtain ⟨A,hA⟩:∃A,s.reg d=A:=⟨_,rfl⟩
 obtain ⟨B,hB⟩:∃B,s.reg r=B:=⟨_,rfl⟩
 have hAl:A<18446744073709551616:=by rw [←hA];exact hs.reg d
 have hBl:B<18446744073709551616:=by rw [←hB];exact hs.reg r
 have hUl:u64I im<18446744073709551616:=u64I_lt im
 have hw:=u64I_wrap im
 have q7:(a !=7)=true:=by rw [bne_iff_ne];exact h7
 have HQ:Hid (execM ⟨4,a,c,z,wd,sh,d,r,dp,rl,im⟩ s= .ok ((arithM s wd a A B).1.set d (doM 0xb0 wd 0 (arithM s wd a A B).2))):=by
  subst hA
  subst hB
  unfold execM
  rw [if_neg (by rw [hv];simp)]
  show Hid (Except.ok (if a=7 then _ else _)=_)
  rw [if_neg h7]
  exact Lib.hid rfl
 rw [HQ.out]
 clear hm hv
 generalize u64I im=U at*
 have HAR:Hid (∀W,ESt w w.heap.size ⟨4,a,c,z,wd,sh,d,r,dp,rl,im⟩ s W→Calls prog 118 #[.pointer (some ⟨w.heap.size+1,0,none⟩), .bool wd, .int .i64 a, .int .u64 A, .int .u64 B] W fun e w'=>e= .returned (.int .u64 (arithM s wd a A B).2)∧Hid (ESt w w.heap.size ⟨4,a,c,z,wd,sh,d,r,dp,rl,im⟩ (arithM s wd a A B).1 w')):=fun W h=>h.arith HM.out wd a A B ha hAl hBl
 have hlt:(arithM s wd a A B).2<18446744073709551616:=doM_u64 (doesM a) wd A B
 clear h7
 generalize hq2:(arithM s wd a A B).2=q2 at*
 generalize hq1:(arithM s wd a A B).1=q1 at*
 clear hq1 hq2
 have d1:(0:Int)≤(d:Int):=by omega
 have d2:(d:Int)<16:=by omega
 have r1:(0:Int)≤(r:Int):=by omega
 have r2:(r:Int)<16:=by omega
 simp only [XI.agg,ST.agg,exV] at*
 go_enter func77,ntmps77
 go_upto_region 1 with fail
 refine wp_world (fun W1=>Hid (ESt w w.heap.size ⟨4,a,c,z,wd,sh,d,r,dp,rl,im⟩ s W1)) (by exact HE0.out _ _ _) ?_
 intro W1 HL
 clear HE0
 obtain ⟨c0,c1,c2,c3,c4,c5,c6,c7,c8,c9,c10⟩:=XI.at HL.out.x
 go_upto_region 3 with (go_at_call 69;(with_reducible refine (HV.out _ HL.out.fr).mono ?_);rintro e w2 ⟨rfl,hf2⟩;replace HL:=Lib.hid (HL.out.no hf2);clear hf2)
 clear c0 c1 c2 c3 c4 c5 c6 c7 c8 c9 c10
 obtain ⟨c0,c1,c2,c3,c4,c5,c6,c7,c8,c9,c10⟩:=XI.at HL.out.x
 have rd:=HL.out.st.reg hd
 have rr:=HL.out.st.reg hr
 rw [hA] at rd
 rw [hB] at rr
 go_quiet (fail)
 have HLn:=Lib.hid (HL.out.no ((Fr.refl _ _).drewN nq))
 clear HL c0 c1 c2 c3 c4 c5 c6 c7 c8 c9 c10 rd rr
 have HL:=HLn
 clear HLn
 obtain ⟨W3,hW3⟩:∃W3,W3=w2.drewN nq:=⟨_,rfl⟩
 rw [←hW3] at HL ⊢
 clear hW3
 obtain ⟨c0,c1,c2,c3,c4,c5,c6,c7,c8,c9,c10⟩:=XI.at HL.out.x
 go_wp2_with (first
  |(go_at_call 118;(with_reducible refine (HAR.out _ HL.out).mono ?_);rintro e w4 ⟨rfl,HL⟩;obtain ⟨c0,c1,c2,c3,c4,c5,c6,c7,c8,c9,c10⟩:=XI.at HL.out.x)
  |(go_at_call 116;(with_reducible refine (HL.out.mov rfl hd hlt).mono ?_);rintro e w3 ⟨rfl,HL⟩)
  |(refine HL.out.st.load rfl (.tmp 3) rfl rfl ?_)
  |(refine HL.out.answer HL.out.st.ok rfl (.tmp 4) (.tmp 163) rfl rfl rfl ?_;intro W9 HS9 HF9)
)
 exact bodyPost_ret (results_st2 results77 _ _ _ _ HS9.out rfl) rfl ⟨rfl,HF9.out⟩
theorem exec_4c(a c z:Int)(wd sh:Bool)(d r:Nat)(dp rl im:Int)(s:ST)(w:World)(hs:s.ok)(hm:MachAt w)(hx:(Lit.int .i64 z).wf=true)(ha:(Lit.int .i64 a).wf=true)(hd:d<16)(hr:r<16)(h7:a=7)(hv:validM ⟨4,a,c,z,wd,sh,d,r,dp,rl,im⟩=true):
  Calls prog 77 #[(XI.mk 4 a c z wd sh d r dp rl im).agg,s.agg] w fun e w'=>e= .returned (exV (execM ⟨4,a,c,z,wd,sh,d,r,dp,rl,im⟩ s))∧Fr No w w':=by
 have HV:Hid (∀W,Fr No w W→Calls prog 69 #[(XI.mk 4 a c z wd sh d r dp rl im).agg] W fun e w'=>e= .returned (.bool true)∧Fr No W w'):=fun W hW=>by rw [←hv];exact valid_any _ hx W (hm.fr hW)
 have HE0:Hid (∀t1 t2 t3,_):=ESt.start (w:=w) (x:=⟨4,a,c,z,wd,sh,d,r,dp,rl,im⟩) hs
 have HM:=Lib.hid hm
 obtain ⟨A,hA⟩:∃A,s.reg d=A:=⟨_,rfl⟩
 obtain ⟨B,hB⟩:∃B,s.reg r=B:=⟨_,rfl⟩
 have hAl:A<18446744073709551616:=by rw [←hA];exact hs.reg d
 have hBl:B<18446744073709551616:=by rw [←hB];exact hs.reg r
 have hUl:u64I im<18446744073709551616:=u64I_lt im
 have hw:=u64I_wrap im
 have q7:(a !=7)=false:=by rw [h7];rfl
 have HQ:Hid (execM ⟨4,a,c,z,wd,sh,d,r,dp,rl,im⟩ s= .ok (arithM s wd a A B).1):=by
  subst hA
  subst hB
  unfold execM
  rw [if_neg (by rw [hv];simp)]
  show Hid (Except.ok (if a=7 then _ else _)=_)
  rw [if_pos h7]
  exact Lib.hid rfl
 rw [HQ.out]
 clear hm hv
 generalize u64I im=U at*
 have HAR:Hid (∀W,ESt w w.heap.size ⟨4,a,c,z,wd,sh,d,r,dp,rl,im⟩ s W→Calls prog 118 #[.pointer (some ⟨w.heap.size+1,0,none⟩), .bool wd, .int .i64 a, .int .u64 A, .int .u64 B] W fun e w'=>e= .returned (.int .u64 (arithM s wd a A B).2)∧Hid (ESt w w.heap.size ⟨4,a,c,z,wd,sh,d,r,dp,rl,im⟩ (arithM s wd a A B).1 w')):=fun W h=>h.arith HM.out wd a A B ha hAl hBl
 have hlt:(arithM s wd a A B).2<18446744073709551616:=doM_u64 (doesM a) wd A B
 clear h7
 generalize hq2:(arithM s wd a A B).2=q2 at*
 generalize hq1:(arithM s wd a A B).1=q1 at*
 clear hq1 hq2
 have d1:(0:Int)≤(d:Int):=by omega
 have d2:(d:Int)<16:=by omega
 have r1:(0:Int)≤(r:Int):=by omega
 have r2:(r:Int)<16:=by omega
 simp only [XI.agg,ST.agg,exV] at*
 go_enter func77,ntmps77
 go_upto_region 1 with fail
 refine wp_world (fun W1=>Hid (ESt w w.heap.size ⟨4,a,c,z,wd,sh,d,r,dp,rl,im⟩ s W1)) (by exact HE0.out _ _ _) ?_
 intro W1 HL
 clear HE0
 obtain ⟨c0,c1,c2,c3,c4,c5,c6,c7,c8,c9,c10⟩:=XI.at HL.out.x
 go_upto_region 3 with (go_at_call 69;(with_reducible refine (HV.out _ HL.out.fr).mono ?_);rintro e w2 ⟨rfl,hf2⟩;replace HL:=Lib.hid (HL.out.no hf2);clear hf2)
 clear c0 c1 c2 c3 c4 c5 c6 c7 c8 c9 c10
 obtain ⟨c0,c1,c2,c3,c4,c5,c6,c7,c8,c9,c10⟩:=XI.at HL.out.x
 have rd:=HL.out.st.reg hd
 have rr:=HL.out.st.reg hr
 rw [hA] at rd
 rw [hB] at rr
 go_quiet (fail)
 have HLn:=Lib.hid (HL.out.no ((Fr.refl _ _).drewN nq))
 clear HL c0 c1 c2 c3 c4 c5 c6 c7 c8 c9 c10 rd rr
 have HL:=HLn
 clear HLn
 obtain ⟨W3,hW3⟩:∃W3,W3=w2.drewN nq:=⟨_,rfl⟩
 rw [←hW3] at HL ⊢
 clear hW3
 obtain ⟨c0,c1,c2,c3,c4,c5,c6,c7,c8,c9,c10⟩:=XI.at HL.out.x
 go_wp2_with (first
  |(go_at_call 118;(with_reducible refine (HAR.out _ HL.out).mono ?_);rintro e w4 ⟨rfl,HL⟩;obtain ⟨c0,c1,c2,c3,c4,c5,c6,c7,c8,c9,c10⟩:=XI.at HL.out.x)
  |(refine HL.out.st.load rfl (.tmp 3) rfl rfl ?_)
  |(refine HL.out.answer HL.out.st.ok rfl (.tmp 4) (.tmp 163) rfl rfl rfl ?_;intro W9 HS9 HF9)
)
 exact bodyPost_ret (results_st2 results77 _ _ _ _ HS9.out rfl) rfl ⟨rfl,HF9.out⟩
theorem exec_5(a c z:Int)(wd sh:Bool)(d r:Nat)(dp rl im:Int)(s:ST)(w:World)(hs:s.ok)(hm:MachAt w)(hx:(Lit.int .i64 z).wf=true)(ha:(Lit.int .i64 a).wf=true)(hd:d<16)(hr:r<16)(h7:a≠7)(hv:validM ⟨5,a,c,z,wd,sh,d,r,dp,rl,im⟩=true):
  Calls prog 77 #[(XI.mk 5 a c z wd sh d r dp rl im).agg,s.agg] w fun e w'=>e= .returned (exV (execM ⟨5,a,c,z,wd,sh,d,r,dp,rl,im⟩ s))∧Fr No w w':=by
 have HV:Hid (∀W,Fr No w W→Calls prog 69 #[(XI.mk 5 a c z wd sh d r dp rl im).agg] W fun e w'=>e= .returned (.bool true)∧Fr No W w'):=fun W hW=>by rw [←hv];exact valid_any _ hx W (hm.fr hW)
 have HE0:Hid (∀t1 t2 t3,_):=ESt.start (w:=w) (x:=⟨5,a,c,z,wd,sh,d,r,dp,rl,im⟩) hs
 have HM:=Lib.hid hm
 obtain ⟨A,hA⟩:∃A,s.reg d=A:=⟨_,rfl⟩
 obtain ⟨B,hB⟩:∃B,s.reg r=B:=⟨_,rfl⟩
 have hAl:A<18446744073709551616:=by rw [←hA];exact hs.reg d
 have hBl:B<18446744073709551616:=by rw [←hB];exact hs.reg r
 have hUl:u64I im<18446744073709551616:=u64I_lt im
 have hw:=u64I_wrap im
 have q7:(a !=7)=true:=by rw [bne_iff_ne];exact h7
 have HQ:Hid (execM ⟨5,a,c,z,wd,sh,d,r,dp,rl,im⟩ s= .ok ((arithM s wd a A (u64I im)).1.set d (doM 0xb0 wd 0 (arithM s wd a A (u64I im)).2))):=by
  subst hA
  subst hB
  unfold execM
  rw [if_neg (by rw [hv];simp)]
  show Hid (Except.ok (if a=7 then _ else _)=_)
  rw [if_neg h7]
  exact Lib.hid rfl
 rw [HQ.out]
 clear hm hv
 generalize u64I im=U at*
 have HAR:Hid (∀W,ESt w w.heap.size ⟨5,a,c,z,wd,sh,d,r,dp,rl,im⟩ s W→Calls prog 118 #[.pointer (some ⟨w.heap.size+1,0,none⟩), .bool wd, .int .i64 a, .int .u64 A, .int .u64 U] W fun e w'=>e= .returned (.int .u64 (arithM s wd a A U).2)∧Hid (ESt w w.heap.size ⟨5,a,c,z,wd,sh,d,r,dp,rl,im⟩ (arithM s wd a A U).1 w')):=fun W h=>h.arith HM.out wd a A U ha hAl hUl
 have hlt:(arithM s wd a A U).2<18446744073709551616:=doM_u64 (doesM a) wd A U
 clear h7
 generalize hq2:(arithM s wd a A U).2=q2 at*
 generalize hq1:(arithM s wd a A U).1=q1 at*
 clear hq1 hq2
 have d1:(0:Int)≤(d:Int):=by omega
 have d2:(d:Int)<16:=by omega
 have r1:(0:Int)≤(r:Int):=by omega
 have r2:(r:Int)<16:=by omega
 simp only [XI.agg,ST.agg,exV] at*
 go_enter func77,ntmps77
 go_upto_region 1 with fail
 refine wp_world (fun W1=>Hid (ESt w w.heap.size ⟨5,a,c,z,wd,sh,d,r,dp,rl,im⟩ s W1)) (by exact HE0.out _ _ _) ?_
 intro W1 HL
 clear HE0
 obtain ⟨c0,c1,c2,c3,c4,c5,c6,c7,c8,c9,c10⟩:=XI.at HL.out.x
 go_upto_region 3 with (go_at_call 69;(with_reducible refine (HV.out _ HL.out.fr).mono ?_);rintro e w2 ⟨rfl,hf2⟩;replace HL:=Lib.hid (HL.out.no hf2);clear hf2)
 clear c0 c1 c2 c3 c4 c5 c6 c7 c8 c9 c10
 obtain ⟨c0,c1,c2,c3,c4,c5,c6,c7,c8,c9,c10⟩:=XI.at HL.out.x
 have rd:=HL.out.st.reg hd
 have rr:=HL.out.st.reg hr
 rw [hA] at rd
 rw [hB] at rr
 go_quiet (fail)
 have HLn:=Lib.hid (HL.out.no ((Fr.refl _ _).drewN nq))
 clear HL c0 c1 c2 c3 c4 c5 c6 c7 c8 c9 c10 rd rr
 have HL:=HLn
 clear HLn
 obtain ⟨W3,hW3⟩:∃W3,W3=w2.drewN nq:=⟨_,rfl⟩
 rw [←hW3] at HL ⊢
 clear hW3
 obtain ⟨c0,c1,c2,c3,c4,c5,c6,c7,c8,c9,c10⟩:=XI.at HL.out.x
 go_wp2_with (first
  |(go_at_call 118;(with_reducible refine (HAR.out _ HL.out).mono ?_);rintro e w4 ⟨rfl,HL⟩;obtain ⟨c0,c1,c2,c3,c4,c5,c6,c7,c8,c9,c10⟩:=XI.at HL.out.x)
  |(go_at_call 116;(with_reducible refine (HL.out.mov rfl hd hlt).mono ?_);rintro e w3 ⟨rfl,HL⟩)
  |(refine HL.out.st.load rfl (.tmp 3) rfl rfl ?_)
  |(refine HL.out.answer HL.out.st.ok rfl (.tmp 4) (.tmp 163) rfl rfl rfl ?_;intro W9 HS9 HF9)
)
 exact bodyPost_ret (results_st2 results77 _ _ _ _ HS9.out rfl) rfl ⟨rfl,HF9.out⟩
theorem exec_5c(a c z:Int)(wd sh:Bool)(d r:Nat)(dp rl im:Int)(s:ST)(w:World)(hs:s.ok)(hm:MachAt w)(hx:(Lit.int .i64 z).wf=true)(ha:(Lit.int .i64 a).wf=true)(hd:d<16)(hr:r<16)(h7:a=7)(hv:validM ⟨5,a,c,z,wd,sh,d,r,dp,rl,im⟩=true):
  Calls prog 77 #[(XI.mk 5 a c z wd sh d r dp rl im).agg,s.agg] w fun e w'=>e= .returned (exV (execM ⟨5,a,c,z,wd,sh,d,r,dp,rl,im⟩ s))∧Fr No w w':=by
 have HV:Hid (∀W,Fr No w W→Calls prog 69 #[(XI.mk 5 a c z wd sh d r dp rl im).agg] W fun e w'=>e= .returned (.bool true)∧Fr No W w'):=fun W hW=>by rw [←hv];exact valid_any _ hx W (hm.fr hW)
 have HE0:Hid (∀t1 t2 t3,_):=ESt.start (w:=w) (x:=⟨5,a,c,z,wd,sh,d,r,dp,rl,im⟩) hs
 have HM:=Lib.hid hm
 obtain ⟨A,hA⟩:∃A,s.reg d=A:=⟨_,rfl⟩
 obtain ⟨B,hB⟩:∃B,s.reg r=B:=⟨_,rfl⟩
 have hAl:A<18446744073709551616:=by rw [←hA];exact hs.reg d
 have hBl:B<18446744073709551616:=by rw [←hB];exact hs.reg r
 have hUl:u64I im<18446744073709551616:=u64I_lt im
 have hw:=u64I_wrap im
 have q7:(a !=7)=false:=by rw [h7];rfl
 have HQ:Hid (execM ⟨5,a,c,z,wd,sh,d,r,dp,rl,im⟩ s= .ok (arithM s wd a A (u64I im)).1):=by
  subst hA
  subst hB
  unfold execM
  rw [if_neg (by rw [hv];simp)]
  show Hid (Except.ok (if a=7 then _ else _)=_)
  rw [if_pos h7]
  exact Lib.hid rfl
 rw [HQ.out]
 clear hm hv
 generalize u64I im=U at*
 have HAR:Hid (∀W,ESt w w.heap.size ⟨5,a,c,z,wd,sh,d,r,dp,rl,im⟩ s W→Calls prog 118 #[.pointer (some ⟨w.heap.size+1,0,none⟩), .bool wd, .int .i64 a, .int .u64 A, .int .u64 U] W fun e w'=>e= .returned (.int .u64 (arithM s wd a A U).2)∧Hid (ESt w w.heap.size ⟨5,a,c,z,wd,sh,d,r,dp,rl,im⟩ (arithM s wd a A U).1 w')):=fun W h=>h.arith HM.out wd a A U ha hAl hUl
 have hlt:(arithM s wd a A U).2<18446744073709551616:=doM_u64 (doesM a) wd A U
 clear h7
 generalize hq2:(arithM s wd a A U).2=q2 at*
 generalize hq1:(arithM s wd a A U).1=q1 at*
 clear hq1 hq2
 have d1:(0:Int)≤(d:Int):=by omega
 have d2:(d:Int)<16:=by omega
 have r1:(0:Int)≤(r:Int):=by omega
 have r2:(r:Int)<16:=by omega
 simp only [XI.agg,ST.agg,exV] at*
 go_enter func77,ntmps77
 go_upto_region 1 with fail
 refine wp_world (fun W1=>Hid (ESt w w.heap.size ⟨5,a,c,z,wd,sh,d,r,dp,rl,im⟩ s W1)) (by exact HE0.out _ _ _) ?_
 intro W1 HL
 clear HE0
 obtain ⟨c0,c1,c2,c3,c4,c5,c6,c7,c8,c9,c10⟩:=XI.at HL.out.x
 go_upto_region 3 with (go_at_call 69;(with_reducible refine (HV.out _ HL.out.fr).mono ?_);rintro e w2 ⟨rfl,hf2⟩;replace HL:=Lib.hid (HL.out.no hf2);clear hf2)
 clear c0 c1 c2 c3 c4 c5 c6 c7 c8 c9 c10
 obtain ⟨c0,c1,c2,c3,c4,c5,c6,c7,c8,c9,c10⟩:=XI.at HL.out.x
 have rd:=HL.out.st.reg hd
 have rr:=HL.out.st.reg hr
 rw [hA] at rd
 rw [hB] at rr
 go_quiet (fail)
 have HLn:=Lib.hid (HL.out.no ((Fr.refl _ _).drewN nq))
 clear HL c0 c1 c2 c3 c4 c5 c6 c7 c8 c9 c10 rd rr
 have HL:=HLn
 clear HLn
 obtain ⟨W3,hW3⟩:∃W3,W3=w2.drewN nq:=⟨_,rfl⟩
 rw [←hW3] at HL ⊢
 clear hW3
 obtain ⟨c0,c1,c2,c3,c4,c5,c6,c7,c8,c9,c10⟩:=XI.at HL.out.x
 go_wp2_with (first
  |(go_at_call 118;(with_reducible refine (HAR.out _ HL.out).mono ?_);rintro e w4 ⟨rfl,HL⟩;obtain ⟨c0,c1,c2,c3,c4,c5,c6,c7,c8,c9,c10⟩:=XI.at HL.out.x)
  |(refine HL.out.st.load rfl (.tmp 3) rfl rfl ?_)
  |(refine HL.out.answer HL.out.st.ok rfl (.tmp 4) (.tmp 163) rfl rfl rfl ?_;intro W9 HS9 HF9)
)
 exact bodyPost_ret (results_st2 results77 _ _ _ _ HS9.out rfl) rfl ⟨rfl,HF9.out⟩
theorem exec_21(a c z:Int)(wd sh:Bool)(d r:Nat)(dp rl im:Int)(s:ST)(w:World)(hs:s.ok)(hm:MachAt w)(hx:(Lit.int .i64 z).wf=true)(ha:(Lit.int .i64 a).wf=true)(hd:d<16)(hr:r<16)(hv:validM ⟨21,a,c,z,wd,sh,d,r,dp,rl,im⟩=true):
  Calls prog 77 #[(XI.mk 21 a c z wd sh d r dp rl im).agg,s.agg] w fun e w'=>e= .returned (exV (execM ⟨21,a,c,z,wd,sh,d,r,dp,rl,im⟩ s))∧Fr No w w':=by
 have HV:Hid (∀W,Fr No w W→Calls prog 69 #[(XI.mk 21 a c z wd sh d r dp rl im).agg] W fun e w'=>e= .returned (.bool true)∧Fr No W w'):=fun W hW=>by rw [←hv];exact valid_any _ hx W (hm.fr hW)
 have HE0:Hid (∀t1 t2 t3,_):=ESt.start (w:=w) (x:=⟨21,a,c,z,wd,sh,d,r,dp,rl,im⟩) hs
 have HM:=Lib.hid hm
 obtain ⟨A,hA⟩:∃A,s.reg d=A:=⟨_,rfl⟩
 obtain ⟨B,hB⟩:∃B,s.reg r=B:=⟨_,rfl⟩
 have hAl:A<18446744073709551616:=by rw [←hA];exact hs.reg d
 have hBl:B<18446744073709551616:=by rw [←hB];exact hs.reg r
 have hUl:u64I im<18446744073709551616:=u64I_lt im
 have hw:=u64I_wrap im
 have HQ:Hid (execM ⟨21,a,c,z,wd,sh,d,r,dp,rl,im⟩ s= .ok s):=by
  subst hA
  subst hB
  unfold execM
  rw [if_neg (by rw [hv];simp)]
  exact Lib.hid rfl
 rw [HQ.out]
 clear hm hv
 generalize u64I im=U at*
 have d1:(0:Int)≤(d:Int):=by omega
 have d2:(d:Int)<16:=by omega
 have r1:(0:Int)≤(r:Int):=by omega
 have r2:(r:Int)<16:=by omega
 simp only [XI.agg,ST.agg,exV] at*
 go_enter func77,ntmps77
 go_upto_region 1 with fail
 refine wp_world (fun W1=>Hid (ESt w w.heap.size ⟨21,a,c,z,wd,sh,d,r,dp,rl,im⟩ s W1)) (by exact HE0.out _ _ _) ?_
 intro W1 HL
 clear HE0
 obtain ⟨c0,c1,c2,c3,c4,c5,c6,c7,c8,c9,c10⟩:=XI.at HL.out.x
 go_upto_region 3 with (go_at_call 69;(with_reducible refine (HV.out _ HL.out.fr).mono ?_);rintro e w2 ⟨rfl,hf2⟩;replace HL:=Lib.hid (HL.out.no hf2);clear hf2)
 clear c0 c1 c2 c3 c4 c5 c6 c7 c8 c9 c10
 obtain ⟨c0,c1,c2,c3,c4,c5,c6,c7,c8,c9,c10⟩:=XI.at HL.out.x
 have rd:=HL.out.st.reg hd
 have rr:=HL.out.st.reg hr
 rw [hA] at rd
 rw [hB] at rr
 go_quiet (fail)
 have HLn:=Lib.hid (HL.out.no ((Fr.refl _ _).drewN nq))
 clear HL c0 c1 c2 c3 c4 c5 c6 c7 c8 c9 c10 rd rr
 have HL:=HLn
 clear HLn
 obtain ⟨W3,hW3⟩:∃W3,W3=w2.drewN nq:=⟨_,rfl⟩
 rw [←hW3] at HL ⊢
 clear hW3
 obtain ⟨c0,c1,c2,c3,c4,c5,c6,c7,c8,c9,c10⟩:=XI.at HL.out.x
 go_wp2_with (first
  |(refine HL.out.st.load rfl (.tmp 3) rfl rfl ?_)
  |(refine HL.out.answer HL.out.st.ok rfl (.tmp 4) (.tmp 163) rfl rfl rfl ?_;intro W9 HS9 HF9)
)
 exact bodyPost_ret (results_st2 results77 _ _ _ _ HS9.out rfl) rfl ⟨rfl,HF9.out⟩
theorem i64_wf{n}(h: -9223372036854775808≤n∧n≤9223372036854775807):(Lit.int .i64 n).wf=true:=by
 have:=wrap64_wf n
 rwa [IntWalk.wrap64_in _ h] at this
def cD:List MapD:= [⟨1,4,1,2⟩]
def cS:List Tab:=cD.map Tab.new
structure HWok(ds:List MapD)(W:HW):Prop where
 tabs:W.S.map (·.d)=ds
 draws:∀d∈W.D,0≤d∧d<18446744073709551616
structure RQ where
 L:List Reg
 q:Nat→Prop
 lo:Nat
instance:Coe (List Reg) RQ:=⟨fun l=>⟨l,fun _=>False,0⟩⟩
def Zof(w0:World)(N:Nat)(RL:RQ)(k:Nat):Prop:=w0.heap.size≤k∧RL.lo≤k∧k<N
structure WM(w0:World)(N:Nat)(bw mb:Nat)(ds:List MapD)(p:Nat)(RL:RQ)(W:HW)(wr:World):Prop where
 ex:∃b A H T mv ov dv,WAt w0 bw b mb ds p RL.L W.D W.S W.m A H T mv ov dv wr∧(∀k,A k∨H k∨T k→k<N∧¬RL.q k)∧(∀k,mv.ownBlock=some k∨ov.ownBlock=some k∨dv.ownBlock=some k→k<N∧¬RL.q k)∧∀k,H k∨T k→RL.lo≤k
 ok:HWok ds W
 nq:¬RL.q bw∧RL.lo≤bw
 bw:bw<N
 bound:N≤wr.heap.size
theorem WM.fr{w0 wr N bw mb p ds RL W}(h:WM w0 N bw mb ds p RL W wr):Fr No w0 wr:=by
 obtain ⟨b,A,H,T,mv,ov,dv,hw,hz⟩:=h.ex
 exact hw.k.fr
theorem WM.lo{w0 wr:World}{N bw mb p ds RL W}(h:WM w0 N bw mb ds p RL W wr):w0.heap.size≤bw:=by
 obtain ⟨b,A,H,T,mv,ov,dv,hw,hz⟩:=h.ex
 exact hw.lo
theorem WM.to{w0 wr w' N bw mb p ds RL W}(h:WM w0 N bw mb ds p RL W wr)(hf:Fr No wr w'):WM w0 N bw mb ds p RL W w':=by
 obtain ⟨b,A,H,T,mv,ov,dv,hw,hz⟩:=h.ex
 exact ⟨⟨b,A,H,T,mv,ov,dv,hw.to hf,hz⟩,h.ok,h.nq,h.bw,Nat.le_trans h.bound hf.size⟩
theorem WAt.beside{w0 wr w':World}{X N bw b mb p ds RL D S m A H T}{mv ov dv:Value}(h:WAt w0 bw b mb ds p RL D S m A H T mv ov dv wr)(hf:Fr X wr w')(hX:∀k,X k→N≤k)(hbw:bw<N)(hA:∀k,A k∨H k∨T k→k<N)(hv:∀k,mv.ownBlock=some k∨ov.ownBlock=some k∨dv.ownBlock=some k→k<N):WAt w0 bw b mb ds p RL D S m A H T mv ov dv w':=by
 have hb:¬X bw:=fun hx=>by have:=hX _ hx;omega
 have n1:∀k,A k→¬X k:=fun k hk hx=>by have:=hX _ hx;have:=hA k (.inl hk);omega
 have n2:∀k,H k→¬X k:=fun k hk hx=>by have:=hX _ hx;have:=hA k (.inr (.inl hk));omega
 have n3:∀k,T k→¬X k:=fun k hk hx=>by have:=hX _ hx;have:=hA k (.inr (.inr hk));omega
 have v1:Apart X mv:=fun k hk hx=>by have:=hX _ hx;have:=hv k (.inl hk);omega
 have v2:Apart X ov:=fun k hk hx=>by have:=hX _ hx;have:=hv k (.inr (.inl hk));omega
 have v3:Apart X dv:=fun k hk hx=>by have:=hX _ hx;have:=hv k (.inr (.inr hk));omega
 have hlo:w0.heap.size≤bw:=h.lo
 exact ⟨hf.cell h.c0 hb,hf.cell h.c1 hb,hf.cell h.c2 hb,hf.cell h.c3 hb,hf.cell h.c4 hb,hf.cell h.c5 hb,hf.cell h.c6 hb,by rw [hf.frozen h.c6 hb];exact h.open6,h.nb,h.lo,h.maps.frS hf v1,h.mapsA,h.own.frS hf v2,h.ownA,h.draws.fr hf v3,h.drawsA,h.k.apart hf (fun k hk=>by have:=hX k hk;show w0.heap.size≤k;omega) n1 n2 n3,
  fun k hk=>Nat.lt_of_lt_of_le (h.lt k hk) hf.size,fun k hk=>Nat.lt_of_lt_of_le (h.ltv k hk) hf.size⟩
theorem WM.beside{w0 wr w' X N bw mb p ds RL W}(h:WM w0 N bw mb ds p RL W wr)(hf:Fr X wr w')(hX:∀k,X k→N≤k):WM w0 N bw mb ds p RL W w':=by
 obtain ⟨b,A,H,T,mv,ov,dv,hw,hz,hv⟩:=h.ex
 exact ⟨⟨b,A,H,T,mv,ov,dv,hw.beside hf hX h.bw (fun k hk=>(hz k hk).1) (fun k hk=>(hv.1 k hk).1),hz,hv⟩,h.ok,h.nq,h.bw,Nat.le_trans h.bound hf.size⟩
theorem WM.apart{w0 wr w':World}{X:Nat→Prop}{N:Nat}{bw mb p:Nat}{ds:List MapD}{RL:RQ}{W:HW}(h:WM w0 N bw mb ds p RL W wr)(hf:Fr X wr w')(h0:∀k,X k→w0.heap.size≤k)(hX:∀k,X k→N≤k∨RL.q k):WM w0 N bw mb ds p RL W w':=by
 obtain ⟨b,A,H,T,mv,ov,dv,hw,hz,hv⟩:=h.ex
 have ne:∀k,k<N∧¬RL.q k→¬X k:=fun k hk hx=>(hX k hx).elim (fun hx=>by omega) hk.2
 have hb:=ne bw ⟨h.bw,h.nq.1⟩
 exact ⟨⟨b,A,H,T,mv,ov,dv,⟨hf.cell hw.c0 hb,hf.cell hw.c1 hb,hf.cell hw.c2 hb,hf.cell hw.c3 hb,hf.cell hw.c4 hb,hf.cell hw.c5 hb,hf.cell hw.c6 hb,by rw [hf.frozen hw.c6 hb];exact hw.open6,hw.nb,hw.lo,hw.maps.frS hf (fun k hk=>ne k (hv.1 k (.inl hk))),hw.mapsA,hw.own.frS hf (fun k hk=>ne k (hv.1 k (.inr (.inl hk)))),hw.ownA,hw.draws.fr hf (fun k hk=>ne k (hv.1 k (.inr (.inr hk)))),hw.drawsA,
  hw.k.apart hf h0 (fun k hk=>ne k (hz k (.inl hk))) (fun k hk=>ne k (hz k (.inr (.inl hk)))) (fun k hk=>ne k (hz k (.inr (.inr hk)))),fun k hk=>Nat.lt_of_lt_of_le (hw.lt k hk) hf.size,fun k hk=>Nat.lt_of_lt_of_le (hw.ltv k hk) hf.size⟩,hz,hv⟩,h.ok,h.nq,h.bw,Nat.le_trans h.bound hf.size⟩
theorem WM.tabs{w0 wr N bw mb p ds RL}{W:HW}(h:WM w0 N bw mb ds p RL W wr):(∀t∈W.S,t.ok)∧W.S.length≤4∧WF W.m∧HoldsM W.S W.m:=by
 obtain ⟨b,A,H,T,mv,ov,dv,hw,hz⟩:=h.ex
 obtain ⟨l,hl,hm⟩:=hw.k.maps
 refine ⟨fun t ht=> ?_,?_,?_,hw.k.hold⟩
 ·rw [←hl] at ht
  obtain ⟨x,hx,rfl⟩:=List.mem_map.1 ht
  exact hm.ok x hx
 ·rw [←hl,List.length_map];exact hm.few
 ·obtain ⟨v,l2,hl2,h2⟩:=hw.k.mem
  rw [←hl2]
  exact h2.wf
theorem WM.may{w0 wr N bw mb p}{ds:List MapD}{RL}{W:HW}(h:WM w0 N bw mb ds p RL W wr):(∀x∈ds,x.may=true)∧ds.length≤4∧W.S.length=ds.length:=by
 obtain ⟨h1,h2,_,_⟩:=h.tabs
 have e:=h.ok.tabs
 refine ⟨fun x hx=> ?_,?_,?_⟩
 ·rw [←e] at hx
  obtain ⟨t,ht,rfl⟩:=List.mem_map.1 hx
  exact (h1 t ht).may
 ·rw [←e,List.length_map];exact h2
 ·rw [←e,List.length_map]
theorem WM.memory{w0 wr N bw mb p ds RL W}(h:WM w0 N bw mb ds p RL W wr):
  Calls prog 13 #[.pointer (some ⟨bw,0,none⟩)] wr fun e w'=>e= .returned (.pointer (some ⟨mb,0,none⟩))∧wr=w':=by
 obtain ⟨b,A,H,T,mv,ov,dv,hw,hz⟩:=h.ex
 exact hmemory_any bw mb wr hw.c0 hw.c4
theorem WM.read{w0 wr:World}{N:Nat}{bw mb p:Nat}{ds:List MapD}{RL:RQ}{W:HW}(h:WM w0 N bw mb ds p RL W wr)(addr:Nat)(n:Int)(ha:addr<18446744073709551616):
  Calls prog 193 #[.pointer (some ⟨mb,0,none⟩), .int .u64 addr, .int .i64 n] wr fun e w'=>e= .returned (.tuple #[.int .u64 ((mread W.m addr n).1:Int), .int .i64 (mread W.m addr n).2])∧Fr No wr w':=by
 obtain ⟨b,A,H,T,mv,ov,dv,hw,hz⟩:=h.ex
 exact read_any hw.k.mem addr n (by omega) (by omega)
theorem WM.text{w0 wr:World}{N:Nat}{bw mb p:Nat}{ds:List MapD}{RL:RQ}{W:HW}(h:WM w0 N bw mb ds p RL W wr)(addr:Nat)(n:Int)(ha:addr<18446744073709551616)(hn:n≤9223372036854775807):
  Calls prog 42 #[.pointer (some ⟨mb,0,none⟩), .int .u64 addr, .int .i64 n] wr fun e w'=>e= .returned (.tuple #[.string (bA' (mtext W.m addr n).1), .int .i64 (mtext W.m addr n).2])∧Fr No wr w':=by
 obtain ⟨b,A,H,T,mv,ov,dv,hw,hz⟩:=h.ex
 exact text_any hw.k.mem addr n (by omega) (by omega) hn
theorem WM.write{w0 wr N bw mb p ds RL}{W:HW}(h:WM w0 N bw mb ds p RL W wr)(addr:Nat)(n:Int)(v:Nat)(ha:addr<18446744073709551616)(hv:v<18446744073709551616):
  Calls prog 33 #[.pointer (some ⟨mb,0,none⟩), .int .u64 addr, .int .i64 n, .int .u64 v] wr fun e w'=>e= .returned (.int .i64 (mwrite W.m addr n v).2)∧Hid (WM w0 N bw mb ds p RL {W with m:=(mwrite W.m addr n v).1} w')∧Hid (Fr (Zof w0 N RL) wr w'):=by
 obtain ⟨b,A,H,T,mv,ov,dv,hw,hz,hv2⟩:=h.ex
 refine (hw.k.write addr n v (by omega) (by omega) hv).mono ?_
 rintro e w' ⟨he,hk,hf⟩
 exact ⟨he,⟨⟨b,A,H,T,mv,ov,dv,hw.turn (hf.mono fun _ _ hq=> .inr hq) hk,hz,hv2⟩,⟨h.ok.tabs,h.ok.draws⟩,h.nq,h.bw,Nat.le_trans h.bound hf.size⟩,hf.mono fun k _ hk=>⟨hw.k.new k (.inr hk),hv2.2 k (.inr hk),(hz k (.inr (.inr hk))).1⟩⟩
theorem mlookup_lt{S:List Tab}(hS:∀t∈S,t.ok)(h4:S.length≤4)(i key):0≤mlookup S i key∧mlookup S i key<18446744073709551616:=by
 unfold mlookup
 split
 ·decide
 ·rename_i t hm
  obtain ⟨k,rfl,hk,_⟩:=mhas_some hm
  split
  ·decide
  ·rename_i p hp
   have ht:=hS t (List.mem_of_getElem? hk)
   have hkl:=(List.getElem?_eq_some_iff.1 hk).1
   have hm:=((MapD.may_iff _).1 ht.may)
   have hp2:=(find_some hp).1
   have hl:=ht.len
   unfold mplace mbase
   rw [Int.toNat_natCast]
   have h1:(p:Int)*t.d.value≤16*64:=Int.mul_le_mul (by omega) (by omega) (by omega) (by omega)
   have h2:0≤(p:Int)*t.d.value:=Int.mul_nonneg (by omega) (by omega)
   omega
end Go.Proofs.YtfmcmfiebehhiaaGreatDoor

