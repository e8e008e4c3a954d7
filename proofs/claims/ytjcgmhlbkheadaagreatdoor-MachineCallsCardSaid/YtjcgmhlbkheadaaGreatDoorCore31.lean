/- package machine: Step, the other kinds. (printed by mkstep.py) package machine: Step of whatever. -/
import Derived.Test.YtjcgmhlbkheadaaGreatDoorCore30
set_option linter.all false
set_option linter.unusedVariables false
set_option linter.unusedSimpArgs false
set_option maxRecDepth 100000
set_option maxHeartbeats 2000000
namespace Go.Proofs.YtjcgmhlbkheadaaGreatDoor
open Go.RowKit
theorem SAt.loadG{w:World}{b:Nat}{s:ST}(hS:SAt w b s){ops:Array Oper}{rest:List Oper}{op:Oper}{a:Act}{Q:Exit→Act→World→Prop}(x:Operand)(ho:op.op= .load 43 x)
  (hx:a.eval x= .pointer (some ⟨b,0,none⟩)) (hw:Region.wanted op (yielded ops a.tmps)=true) (h:wpList Tryz.prog ops Q rest (a.put op.dst (.agg s.cells.toArray)) w):wpList Tryz.prog ops Q (op::rest) a w:=by
 show if Region.wanted op (yielded ops a.tmps) then _ else _
 rw [if_pos hw]
 exact .inl (wp_load_mid 43 x ho b 0 hx s.cells _ hS.cells Tryz.underlying43 rfl (ST.info hS.ok) h)
theorem step_15{w0 wr:World}{N bw mb:Nat}{ds:List MapD}{p:Nat}{RL:List Reg}{W:HW}(h:WM w0 N bw mb ds p RL W wr)(hm:MachAt w0)(a c z:Int)(wd sh:Bool)(d r:Nat)(dp rl im:Int)(next:Nat)(s:ST)(hs:s.ok)(hx:(XI.mk 15 a c z wd sh d r dp rl im).ok)(hn:next<18446744073709551616)(hd:d<16)(hr:r<16)(hv:validM ⟨15,a,c,z,wd,sh,d,r,dp,rl,im⟩=true):
  Calls Tryz.prog 12 #[.pointer (some ⟨bw,0,none⟩),(XI.mk 15 a c z wd sh d r dp rl im).agg, .int .u64 next,s.agg] wr fun e w'=>StepTo w0 wr N bw mb ds p RL (stepM ds W ⟨15,a,c,z,wd,sh,d,r,dp,rl,im⟩ next s) e w':=by
 have hz:=i64_wf hx.size
 have hk:=i64_wf hx.kind
 simp only at hz hk
 have HV:Hid (∀W',Fr No w0 W'→Calls Tryz.prog 33 #[(XI.mk 15 a c z wd sh d r dp rl im).agg] W' fun e w'=>e= .returned (.bool true)∧Fr No W' w'):=fun W' hW=>by rw [←hv];exact valid_any _ hz W' (hm.fr hW)
 have HE0:Hid (∀t1 t2 t3,_):=SwS.start h (x:=⟨15,a,c,z,wd,sh,d,r,dp,rl,im⟩) hs
 have HM:=Lib.hid hm
 have HN:=Lib.hid hn
 have HD:=Lib.hid hd
 have HR:=Lib.hid hr
 have hdp:=hx.disp
 have hrl:=hx.rel
 simp only at hdp hrl
 have ht0:(ST.mk s.r s.z s.s s.c s.o next).ok:=⟨hs.len,hs.lt,hn⟩
 have HFA:Hid (∀W',Calls Tryz.prog 36 #[.int .u64 next, .int .i32 rl] W' fun e w'=>e= .returned (.int .u64 (farM next rl))∧W'=w'):=fun W'=>far_any next rl W' hrl
 have HQ:Hid (stepM ds W ⟨15,a,c,z,wd,sh,d,r,dp,rl,im⟩ next s=(.ok {(ST.mk s.r s.z s.s s.c s.o next) with pc:=farM next rl},W)):=by
  unfold stepM
  rw [if_neg (by rw [hv];simp)]
  exact Lib.hid rfl
 rw [HQ.out]
 clear HQ hm h hn hd hr hx hv
 clear ht0
 simp only [XI.agg,ST.agg] at*
 go_enter Tryz.func12,Tryz.ntmps12
 go_upto_region 1 with fail
 refine wp_world (fun W1=>Hid (SwS w0 wr N bw mb ds p RL W ⟨15,a,c,z,wd,sh,d,r,dp,rl,im⟩ s ST.zero W1)) (by exact HE0.out _ _ _) ?_
 intro W1 HL
 clear HE0
 obtain ⟨c0,c1,c2,c3,c4,c5,c6,c7,c8,c9,c10⟩:=XI.at HL.out.x
 go_upto_region 5 with (first
  |(go_at_call 10;(with_reducible refine (HL.out.wm.memory).mono ?_);rintro e w1 ⟨rfl,rfl⟩)
  |(go_at_call 33;(with_reducible refine (HV.out _ HL.out.wm.fr).mono ?_);rintro e w2 ⟨rfl,hf2⟩;replace HL:=Lib.hid (HL.out.no hf2);clear hf2)
)
 clear c0 c1 c2 c3 c4 c5 c6 c7 c8 c9 c10
 go_upto_region 6 with (first
  |(refine HL.out.st.load rfl (.tmp 7) rfl rfl ?_)
  |(refine HL.out.answer HL.out.st.ok rfl (.tmp 8) (.tmp 23) rfl rfl rfl ?_;intro W9 HL)
)
 have oo:=HL.out.res.open_
 have c20:=HL.out.res.at.2.2.2.2
 go_upto_region 7 with fail
 replace HL:=Lib.hid (HL.out.setPC HN.out)
 obtain ⟨W2,hW2⟩:∃W2,W2=W9.setCell ⟨wr.heap.size+1+1,20,none⟩ (.int .u64 next):=⟨_,rfl⟩
 rw [←hW2] at HL ⊢
 clear hW2 oo c20
 obtain ⟨c0,c1,c2,c3,c4,c5,c6,c7,c8,c9,c10⟩:=XI.at HL.out.x
 obtain ⟨bm,nm,hbm,hown⟩:=(HM.out.fr HL.out.wm.fr).touches
 have hlk:=touch_look2 hown hk
 rw [show touchF 15= .nilFunc from by unfold touchF;simp] at hlk
 clear hown
 go_upto_region 9 with fail
 clear hlk hbm hk hz c0 c1 c2 c3 c4 c5 c6 c7 c8 c9 c10
 obtain ⟨c0,c1,c2,c3,c4,c5,c6,c7,c8,c9,c10⟩:=XI.at HL.out.x
 have fq:=fn_nil
 have fg:=fn_guard_nil
 have oo:=HL.out.res.open_
 have c20:=HL.out.res.at.2.2.2.2
 go_upto_region 18 with (first
  |(go_at_call 36;(with_reducible refine (HFA.out _).mono ?_);rintro e w4 ⟨rfl,rfl⟩)
)
 replace HL:=Lib.hid (HL.out.setPC (farM_lt next rl))
 obtain ⟨W3,hW3⟩:∃W3,W3=W2.setCell ⟨wr.heap.size+1+1,20,none⟩ (.int .u64 (farM next rl)):=⟨_,rfl⟩
 rw [←hW3] at HL ⊢
 clear hW3 oo c20
 go_wp2_with (first
  |(refine HL.out.res.load rfl (.tmp 8) rfl rfl ?_)
  |(refine HL.out.answer HL.out.res.ok rfl (.tmp 8) (.tmp 87) rfl rfl rfl ?_;intro W9 HL)
)
 exact bodyPost_ret (results_st2 Tryz.results12 _ _ _ _ HL.out.res rfl) rfl ⟨rfl,HL.out.end_⟩
theorem step_16t{w0 wr:World}{N bw mb:Nat}{ds:List MapD}{p:Nat}{RL:List Reg}{W:HW}(h:WM w0 N bw mb ds p RL W wr)(hm:MachAt w0)(a c z:Int)(wd sh:Bool)(d r:Nat)(dp rl im:Int)(next:Nat)(s:ST)(hs:s.ok)(hx:(XI.mk 16 a c z wd sh d r dp rl im).ok)(hn:next<18446744073709551616)(hd:d<16)(hr:r<16)(ht:takenM c s=true)(hv:validM ⟨16,a,c,z,wd,sh,d,r,dp,rl,im⟩=true):
  Calls Tryz.prog 12 #[.pointer (some ⟨bw,0,none⟩),(XI.mk 16 a c z wd sh d r dp rl im).agg, .int .u64 next,s.agg] wr fun e w'=>StepTo w0 wr N bw mb ds p RL (stepM ds W ⟨16,a,c,z,wd,sh,d,r,dp,rl,im⟩ next s) e w':=by
 have hz:=i64_wf hx.size
 have hk:=i64_wf hx.kind
 simp only at hz hk
 have HV:Hid (∀W',Fr No w0 W'→Calls Tryz.prog 33 #[(XI.mk 16 a c z wd sh d r dp rl im).agg] W' fun e w'=>e= .returned (.bool true)∧Fr No W' w'):=fun W' hW=>by rw [←hv];exact valid_any _ hz W' (hm.fr hW)
 have HE0:Hid (∀t1 t2 t3,_):=SwS.start h (x:=⟨16,a,c,z,wd,sh,d,r,dp,rl,im⟩) hs
 have HM:=Lib.hid hm
 have HN:=Lib.hid hn
 have HD:=Lib.hid hd
 have HR:=Lib.hid hr
 have hdp:=hx.disp
 have hrl:=hx.rel
 simp only at hdp hrl
 have ht0:(ST.mk s.r s.z s.s s.c s.o next).ok:=⟨hs.len,hs.lt,hn⟩
 have HFA:Hid (∀W',Calls Tryz.prog 36 #[.int .u64 next, .int .i32 rl] W' fun e w'=>e= .returned (.int .u64 (farM next rl))∧W'=w'):=fun W'=>far_any next rl W' hrl
 have HTK:Hid (∀W',Calls Tryz.prog 35 #[.int .i64 c,s.agg] W' fun e w'=>e= .returned (.bool true)∧Fr No W' w'):=fun W'=>by rw [←ht];exact taken_any c s W' hs
 have HQ:Hid (stepM ds W ⟨16,a,c,z,wd,sh,d,r,dp,rl,im⟩ next s=(.ok {(ST.mk s.r s.z s.s s.c s.o next) with pc:=farM next rl},W)):=by
  unfold stepM
  rw [if_neg (by rw [hv];simp)]
  dsimp only
  rw [ht]
  exact Lib.hid rfl
 rw [HQ.out]
 clear HQ hm h hn hd hr hx hv
 clear ht0
 simp only [XI.agg,ST.agg] at*
 go_enter Tryz.func12,Tryz.ntmps12
 go_upto_region 1 with fail
 refine wp_world (fun W1=>Hid (SwS w0 wr N bw mb ds p RL W ⟨16,a,c,z,wd,sh,d,r,dp,rl,im⟩ s ST.zero W1)) (by exact HE0.out _ _ _) ?_
 intro W1 HL
 clear HE0
 obtain ⟨c0,c1,c2,c3,c4,c5,c6,c7,c8,c9,c10⟩:=XI.at HL.out.x
 go_upto_region 5 with (first
  |(go_at_call 10;(with_reducible refine (HL.out.wm.memory).mono ?_);rintro e w1 ⟨rfl,rfl⟩)
  |(go_at_call 33;(with_reducible refine (HV.out _ HL.out.wm.fr).mono ?_);rintro e w2 ⟨rfl,hf2⟩;replace HL:=Lib.hid (HL.out.no hf2);clear hf2)
)
 clear c0 c1 c2 c3 c4 c5 c6 c7 c8 c9 c10
 go_upto_region 6 with (first
  |(refine HL.out.st.load rfl (.tmp 7) rfl rfl ?_)
  |(refine HL.out.answer HL.out.st.ok rfl (.tmp 8) (.tmp 23) rfl rfl rfl ?_;intro W9 HL)
)
 have oo:=HL.out.res.open_
 have c20:=HL.out.res.at.2.2.2.2
 go_upto_region 7 with fail
 replace HL:=Lib.hid (HL.out.setPC HN.out)
 obtain ⟨W2,hW2⟩:∃W2,W2=W9.setCell ⟨wr.heap.size+1+1,20,none⟩ (.int .u64 next):=⟨_,rfl⟩
 rw [←hW2] at HL ⊢
 clear hW2 oo c20
 obtain ⟨c0,c1,c2,c3,c4,c5,c6,c7,c8,c9,c10⟩:=XI.at HL.out.x
 obtain ⟨bm,nm,hbm,hown⟩:=(HM.out.fr HL.out.wm.fr).touches
 have hlk:=touch_look2 hown hk
 rw [show touchF 16= .nilFunc from by unfold touchF;simp] at hlk
 clear hown
 go_upto_region 9 with fail
 clear hlk hbm hk hz c0 c1 c2 c3 c4 c5 c6 c7 c8 c9 c10
 obtain ⟨c0,c1,c2,c3,c4,c5,c6,c7,c8,c9,c10⟩:=XI.at HL.out.x
 have fq:=fn_nil
 have fg:=fn_guard_nil
 go_upto_region 18 with (first
  |(refine HL.out.st.load rfl (.tmp 7) rfl rfl ?_)
  |(refine HL.out.st.loadG (.tmp 7) rfl rfl rfl ?_)
  |(go_at_call 35;(with_reducible refine (HTK.out _).mono ?_);rintro e w5 ⟨rfl,hf5⟩;replace HL:=Lib.hid (HL.out.no hf5);clear hf5;have oo:=HL.out.res.open_;have c20:=HL.out.res.at.2.2.2.2;obtain ⟨c0,c1,c2,c3,c4,c5,c6,c7,c8,c9,c10⟩:=XI.at HL.out.x)
  |(go_at_call 36;(with_reducible refine (HFA.out _).mono ?_);rintro e w4 ⟨rfl,rfl⟩)
)
 replace HL:=Lib.hid (HL.out.setPC (farM_lt next rl))
 obtain ⟨W3,hW3⟩:∃W3,W3=w5.setCell ⟨wr.heap.size+1+1,20,none⟩ (.int .u64 (farM next rl)):=⟨_,rfl⟩
 rw [←hW3] at HL ⊢
 clear hW3 oo c20
 go_wp2_with (first
  |(refine HL.out.res.load rfl (.tmp 8) rfl rfl ?_)
  |(refine HL.out.answer HL.out.res.ok rfl (.tmp 8) (.tmp 87) rfl rfl rfl ?_;intro W9 HL)
)
 exact bodyPost_ret (results_st2 Tryz.results12 _ _ _ _ HL.out.res rfl) rfl ⟨rfl,HL.out.end_⟩
theorem step_16f{w0 wr:World}{N bw mb:Nat}{ds:List MapD}{p:Nat}{RL:List Reg}{W:HW}(h:WM w0 N bw mb ds p RL W wr)(hm:MachAt w0)(a c z:Int)(wd sh:Bool)(d r:Nat)(dp rl im:Int)(next:Nat)(s:ST)(hs:s.ok)(hx:(XI.mk 16 a c z wd sh d r dp rl im).ok)(hn:next<18446744073709551616)(hd:d<16)(hr:r<16)(ht:takenM c s=false)(hv:validM ⟨16,a,c,z,wd,sh,d,r,dp,rl,im⟩=true):
  Calls Tryz.prog 12 #[.pointer (some ⟨bw,0,none⟩),(XI.mk 16 a c z wd sh d r dp rl im).agg, .int .u64 next,s.agg] wr fun e w'=>StepTo w0 wr N bw mb ds p RL (stepM ds W ⟨16,a,c,z,wd,sh,d,r,dp,rl,im⟩ next s) e w':=by
 have hz:=i64_wf hx.size
 have hk:=i64_wf hx.kind
 simp only at hz hk
 have HV:Hid (∀W',Fr No w0 W'→Calls Tryz.prog 33 #[(XI.mk 16 a c z wd sh d r dp rl im).agg] W' fun e w'=>e= .returned (.bool true)∧Fr No W' w'):=fun W' hW=>by rw [←hv];exact valid_any _ hz W' (hm.fr hW)
 have HE0:Hid (∀t1 t2 t3,_):=SwS.start h (x:=⟨16,a,c,z,wd,sh,d,r,dp,rl,im⟩) hs
 have HM:=Lib.hid hm
 have HN:=Lib.hid hn
 have HD:=Lib.hid hd
 have HR:=Lib.hid hr
 have hdp:=hx.disp
 have hrl:=hx.rel
 simp only at hdp hrl
 have ht0:(ST.mk s.r s.z s.s s.c s.o next).ok:=⟨hs.len,hs.lt,hn⟩
 have HTK:Hid (∀W',Calls Tryz.prog 35 #[.int .i64 c,s.agg] W' fun e w'=>e= .returned (.bool false)∧Fr No W' w'):=fun W'=>by rw [←ht];exact taken_any c s W' hs
 have HQ:Hid (stepM ds W ⟨16,a,c,z,wd,sh,d,r,dp,rl,im⟩ next s=(.ok (ST.mk s.r s.z s.s s.c s.o next),W)):=by
  unfold stepM
  rw [if_neg (by rw [hv];simp)]
  dsimp only
  rw [ht]
  exact Lib.hid rfl
 rw [HQ.out]
 clear HQ hm h hn hd hr hx hv
 clear ht0
 simp only [XI.agg,ST.agg] at*
 go_enter Tryz.func12,Tryz.ntmps12
 go_upto_region 1 with fail
 refine wp_world (fun W1=>Hid (SwS w0 wr N bw mb ds p RL W ⟨16,a,c,z,wd,sh,d,r,dp,rl,im⟩ s ST.zero W1)) (by exact HE0.out _ _ _) ?_
 intro W1 HL
 clear HE0
 obtain ⟨c0,c1,c2,c3,c4,c5,c6,c7,c8,c9,c10⟩:=XI.at HL.out.x
 go_upto_region 5 with (first
  |(go_at_call 10;(with_reducible refine (HL.out.wm.memory).mono ?_);rintro e w1 ⟨rfl,rfl⟩)
  |(go_at_call 33;(with_reducible refine (HV.out _ HL.out.wm.fr).mono ?_);rintro e w2 ⟨rfl,hf2⟩;replace HL:=Lib.hid (HL.out.no hf2);clear hf2)
)
 clear c0 c1 c2 c3 c4 c5 c6 c7 c8 c9 c10
 go_upto_region 6 with (first
  |(refine HL.out.st.load rfl (.tmp 7) rfl rfl ?_)
  |(refine HL.out.answer HL.out.st.ok rfl (.tmp 8) (.tmp 23) rfl rfl rfl ?_;intro W9 HL)
)
 have oo:=HL.out.res.open_
 have c20:=HL.out.res.at.2.2.2.2
 go_upto_region 7 with fail
 replace HL:=Lib.hid (HL.out.setPC HN.out)
 obtain ⟨W2,hW2⟩:∃W2,W2=W9.setCell ⟨wr.heap.size+1+1,20,none⟩ (.int .u64 next):=⟨_,rfl⟩
 rw [←hW2] at HL ⊢
 clear hW2 oo c20
 obtain ⟨c0,c1,c2,c3,c4,c5,c6,c7,c8,c9,c10⟩:=XI.at HL.out.x
 obtain ⟨bm,nm,hbm,hown⟩:=(HM.out.fr HL.out.wm.fr).touches
 have hlk:=touch_look2 hown hk
 rw [show touchF 16= .nilFunc from by unfold touchF;simp] at hlk
 clear hown
 go_upto_region 9 with fail
 clear hlk hbm hk hz c0 c1 c2 c3 c4 c5 c6 c7 c8 c9 c10
 obtain ⟨c0,c1,c2,c3,c4,c5,c6,c7,c8,c9,c10⟩:=XI.at HL.out.x
 have fq:=fn_nil
 have fg:=fn_guard_nil
 go_upto_region 18 with (first
  |(refine HL.out.st.load rfl (.tmp 7) rfl rfl ?_)
  |(refine HL.out.st.loadG (.tmp 7) rfl rfl rfl ?_)
  |(go_at_call 35;(with_reducible refine (HTK.out _).mono ?_);rintro e w5 ⟨rfl,hf5⟩;replace HL:=Lib.hid (HL.out.no hf5);clear hf5;have oo:=HL.out.res.open_;have c20:=HL.out.res.at.2.2.2.2;obtain ⟨c0,c1,c2,c3,c4,c5,c6,c7,c8,c9,c10⟩:=XI.at HL.out.x)
)
 go_wp2_with (first
  |(refine HL.out.res.load rfl (.tmp 8) rfl rfl ?_)
  |(refine HL.out.answer HL.out.res.ok rfl (.tmp 8) (.tmp 87) rfl rfl rfl ?_;intro W9 HL)
)
 exact bodyPost_ret (results_st2 Tryz.results12 _ _ _ _ HL.out.res rfl) rfl ⟨rfl,HL.out.end_⟩
theorem step_20n{w0 wr:World}{N bw mb:Nat}{ds:List MapD}{p:Nat}{RL:List Reg}{W:HW}(h:WM w0 N bw mb ds p RL W wr)(hm:MachAt w0)(a c z:Int)(wd sh:Bool)(d r:Nat)(dp rl im:Int)(next:Nat)(s:ST)(hs:s.ok)(hx:(XI.mk 20 a c z wd sh d r dp rl im).ok)(hn:next<18446744073709551616)(hd:d<16)(hr:r<16)(hc:argHas (idM (farM next rl))=false)(hv:validM ⟨20,a,c,z,wd,sh,d,r,dp,rl,im⟩=true):
  Calls Tryz.prog 12 #[.pointer (some ⟨bw,0,none⟩),(XI.mk 20 a c z wd sh d r dp rl im).agg, .int .u64 next,s.agg] wr fun e w'=>StepTo w0 wr N bw mb ds p RL (stepM ds W ⟨20,a,c,z,wd,sh,d,r,dp,rl,im⟩ next s) e w':=by
 have hz:=i64_wf hx.size
 have hk:=i64_wf hx.kind
 simp only at hz hk
 have HV:Hid (∀W',Fr No w0 W'→Calls Tryz.prog 33 #[(XI.mk 20 a c z wd sh d r dp rl im).agg] W' fun e w'=>e= .returned (.bool true)∧Fr No W' w'):=fun W' hW=>by rw [←hv];exact valid_any _ hz W' (hm.fr hW)
 have HE0:Hid (∀t1 t2 t3,_):=SwS.start h (x:=⟨20,a,c,z,wd,sh,d,r,dp,rl,im⟩) hs
 have HM:=Lib.hid hm
 have HN:=Lib.hid hn
 have HD:=Lib.hid hd
 have HR:=Lib.hid hr
 have hdp:=hx.disp
 have hrl:=hx.rel
 simp only at hdp hrl
 have ht0:(ST.mk s.r s.z s.s s.c s.o next).ok:=⟨hs.len,hs.lt,hn⟩
 have HFA:Hid (∀W',Calls Tryz.prog 36 #[.int .u64 next, .int .i32 rl] W' fun e w'=>e= .returned (.int .u64 (farM next rl))∧W'=w'):=fun W'=>far_any next rl W' hrl
 have HF:Hid (∀W',WM w0 N bw mb ds p RL W W'→SAt W' (wr.heap.size+1+1) (ST.mk s.r s.z s.s s.c s.o next)→Calls Tryz.prog 37 #[.pointer (some ⟨bw,0,none⟩), .int .u64 (farM next rl), .pointer (some ⟨wr.heap.size+1+1,0,none⟩)] W' fun e w'=>e= .returned (.int .i64 110)∧TouTo w0 N bw mb ds p RL W (wr.heap.size+1+1) (ST.mk s.r s.z s.s s.c s.o next) W' w'):=fun W' hW hS=>mcall_not hW hm (farM next rl) _ _ hS (by have:=h.bound;omega) hc
 have HQ:Hid (stepM ds W ⟨20,a,c,z,wd,sh,d,r,dp,rl,im⟩ next s=(.error 110,W)):=by
  unfold stepM
  rw [if_neg (by rw [hv];simp)]
  dsimp only
  rw [hc]
  exact Lib.hid rfl
 rw [HQ.out]
 clear HQ hm h hn hd hr hx hv
 clear ht0 hc
 simp only [XI.agg,ST.agg] at*
 go_enter Tryz.func12,Tryz.ntmps12
 go_upto_region 1 with fail
 refine wp_world (fun W1=>Hid (SwS w0 wr N bw mb ds p RL W ⟨20,a,c,z,wd,sh,d,r,dp,rl,im⟩ s ST.zero W1)) (by exact HE0.out _ _ _) ?_
 intro W1 HL
 clear HE0
 obtain ⟨c0,c1,c2,c3,c4,c5,c6,c7,c8,c9,c10⟩:=XI.at HL.out.x
 go_upto_region 5 with (first
  |(go_at_call 10;(with_reducible refine (HL.out.wm.memory).mono ?_);rintro e w1 ⟨rfl,rfl⟩)
  |(go_at_call 33;(with_reducible refine (HV.out _ HL.out.wm.fr).mono ?_);rintro e w2 ⟨rfl,hf2⟩;replace HL:=Lib.hid (HL.out.no hf2);clear hf2)
)
 clear c0 c1 c2 c3 c4 c5 c6 c7 c8 c9 c10
 go_upto_region 6 with (first
  |(refine HL.out.st.load rfl (.tmp 7) rfl rfl ?_)
  |(refine HL.out.answer HL.out.st.ok rfl (.tmp 8) (.tmp 23) rfl rfl rfl ?_;intro W9 HL)
)
 have oo:=HL.out.res.open_
 have c20:=HL.out.res.at.2.2.2.2
 go_upto_region 7 with fail
 replace HL:=Lib.hid (HL.out.setPC HN.out)
 obtain ⟨W2,hW2⟩:∃W2,W2=W9.setCell ⟨wr.heap.size+1+1,20,none⟩ (.int .u64 next):=⟨_,rfl⟩
 rw [←hW2] at HL ⊢
 clear hW2 oo c20
 obtain ⟨c0,c1,c2,c3,c4,c5,c6,c7,c8,c9,c10⟩:=XI.at HL.out.x
 obtain ⟨bm,nm,hbm,hown⟩:=(HM.out.fr HL.out.wm.fr).touches
 have hlk:=touch_look2 hown hk
 rw [show touchF 20= .nilFunc from by unfold touchF;simp] at hlk
 clear hown
 go_upto_region 9 with fail
 clear hlk hbm hk hz c0 c1 c2 c3 c4 c5 c6 c7 c8 c9 c10
 obtain ⟨c0,c1,c2,c3,c4,c5,c6,c7,c8,c9,c10⟩:=XI.at HL.out.x
 have fq:=fn_nil
 have fg:=fn_guard_nil
 go_wp2_with (first
  |(go_at_call 36;(with_reducible refine (HFA.out _).mono ?_);rintro e w4 ⟨rfl,rfl⟩)
  |(go_at_call 37;(with_reducible refine (HF.out _ HL.out.wm HL.out.res).mono ?_);rintro e w3 ⟨rfl,ht3⟩;replace HL:=Lib.hid (HL.out.tou ht3);clear ht3)
  |(refine HL.out.answer ST.zero_ok rfl (.tmp 8) (.tmp 85) rfl rfl rfl ?_;intro W9 HL)
)
 exact bodyPost_ret (results_st2 Tryz.results12 _ _ _ ST.zero HL.out.res rfl) rfl ⟨rfl,HL.out.end_⟩
theorem step_20y{w0 wr:World}{N bw mb:Nat}{ds:List MapD}{p:Nat}{RL:List Reg}{W:HW}(h:WM w0 N bw mb ds p RL W wr)(hm:MachAt w0)(a c z:Int)(wd sh:Bool)(d r:Nat)(dp rl im:Int)(next:Nat)(s:ST)(hs:s.ok)(hx:(XI.mk 20 a c z wd sh d r dp rl im).ok)(hn:next<18446744073709551616)(hd:d<16)(hr:r<16)(hc:argHas (idM (farM next rl))=true)(hv:validM ⟨20,a,c,z,wd,sh,d,r,dp,rl,im⟩=true):
  Calls Tryz.prog 12 #[.pointer (some ⟨bw,0,none⟩),(XI.mk 20 a c z wd sh d r dp rl im).agg, .int .u64 next,s.agg] wr fun e w'=>StepTo w0 wr N bw mb ds p RL (stepM ds W ⟨20,a,c,z,wd,sh,d,r,dp,rl,im⟩ next s) e w':=by
 have hz:=i64_wf hx.size
 have hk:=i64_wf hx.kind
 simp only at hz hk
 have HV:Hid (∀W',Fr No w0 W'→Calls Tryz.prog 33 #[(XI.mk 20 a c z wd sh d r dp rl im).agg] W' fun e w'=>e= .returned (.bool true)∧Fr No W' w'):=fun W' hW=>by rw [←hv];exact valid_any _ hz W' (hm.fr hW)
 have HE0:Hid (∀t1 t2 t3,_):=SwS.start h (x:=⟨20,a,c,z,wd,sh,d,r,dp,rl,im⟩) hs
 have HM:=Lib.hid hm
 have HN:=Lib.hid hn
 have HD:=Lib.hid hd
 have HR:=Lib.hid hr
 have hdp:=hx.disp
 have hrl:=hx.rel
 simp only at hdp hrl
 have ht0:(ST.mk s.r s.z s.s s.c s.o next).ok:=⟨hs.len,hs.lt,hn⟩
 have HFA:Hid (∀W',Calls Tryz.prog 36 #[.int .u64 next, .int .i32 rl] W' fun e w'=>e= .returned (.int .u64 (farM next rl))∧W'=w'):=fun W'=>far_any next rl W' hrl
 have HF:Hid (∀W',WM w0 N bw mb ds p RL W W'→SAt W' (wr.heap.size+1+1) (ST.mk s.r s.z s.s s.c s.o next)→Calls Tryz.prog 37 #[.pointer (some ⟨bw,0,none⟩), .int .u64 (farM next rl), .pointer (some ⟨wr.heap.size+1+1,0,none⟩)] W' fun e w'=>e= .returned (.int .i64 (callM ds W (idM (farM next rl)) (s.reg 7) (s.reg 6) (s.reg 2) (s.reg 1)).1.2)∧TouTo w0 N bw mb ds p RL (callM ds W (idM (farM next rl)) (s.reg 7) (s.reg 6) (s.reg 2) (s.reg 1)).2 (wr.heap.size+1+1) (lostM (ST.mk s.r s.z s.s s.c s.o next) (callM ds W (idM (farM next rl)) (s.reg 7) (s.reg 6) (s.reg 2) (s.reg 1)).1.1.toNat) W' w'):=fun W' hW hS=>mcall_any hW hm (farM next rl) _ _ hS (by have:=h.bound;omega) hc
 have HQ:Hid (stepM ds W ⟨20,a,c,z,wd,sh,d,r,dp,rl,im⟩ next s=(exE (callM ds W (idM (farM next rl)) (s.reg 7) (s.reg 6) (s.reg 2) (s.reg 1)).1.2 (lostM (ST.mk s.r s.z s.s s.c s.o next) (callM ds W (idM (farM next rl)) (s.reg 7) (s.reg 6) (s.reg 2) (s.reg 1)).1.1.toNat),(callM ds W (idM (farM next rl)) (s.reg 7) (s.reg 6) (s.reg 2) (s.reg 1)).2)):=by
  unfold stepM
  rw [if_neg (by rw [hv];simp)]
  dsimp only
  rw [hc]
  exact Lib.hid rfl
 rw [HQ.out]
 clear HQ hm h hn hd hr hx hv
 clear ht0 hc
 generalize (callM ds W (idM (farM next rl)) (s.reg 7) (s.reg 6) (s.reg 2) (s.reg 1)).1.2=E at*
 generalize hT2:(lostM (ST.mk s.r s.z s.s s.c s.o next) (callM ds W (idM (farM next rl)) (s.reg 7) (s.reg 6) (s.reg 2) (s.reg 1)).1.1.toNat)=T2 at*
 clear hT2
 generalize (callM ds W (idM (farM next rl)) (s.reg 7) (s.reg 6) (s.reg 2) (s.reg 1)).2=V2 at*
 simp only [XI.agg,ST.agg] at*
 go_enter Tryz.func12,Tryz.ntmps12
 go_upto_region 1 with fail
 refine wp_world (fun W1=>Hid (SwS w0 wr N bw mb ds p RL W ⟨20,a,c,z,wd,sh,d,r,dp,rl,im⟩ s ST.zero W1)) (by exact HE0.out _ _ _) ?_
 intro W1 HL
 clear HE0
 obtain ⟨c0,c1,c2,c3,c4,c5,c6,c7,c8,c9,c10⟩:=XI.at HL.out.x
 go_upto_region 5 with (first
  |(go_at_call 10;(with_reducible refine (HL.out.wm.memory).mono ?_);rintro e w1 ⟨rfl,rfl⟩)
  |(go_at_call 33;(with_reducible refine (HV.out _ HL.out.wm.fr).mono ?_);rintro e w2 ⟨rfl,hf2⟩;replace HL:=Lib.hid (HL.out.no hf2);clear hf2)
)
 clear c0 c1 c2 c3 c4 c5 c6 c7 c8 c9 c10
 go_upto_region 6 with (first
  |(refine HL.out.st.load rfl (.tmp 7) rfl rfl ?_)
  |(refine HL.out.answer HL.out.st.ok rfl (.tmp 8) (.tmp 23) rfl rfl rfl ?_;intro W9 HL)
)
 have oo:=HL.out.res.open_
 have c20:=HL.out.res.at.2.2.2.2
 go_upto_region 7 with fail
 replace HL:=Lib.hid (HL.out.setPC HN.out)
 obtain ⟨W2,hW2⟩:∃W2,W2=W9.setCell ⟨wr.heap.size+1+1,20,none⟩ (.int .u64 next):=⟨_,rfl⟩
 rw [←hW2] at HL ⊢
 clear hW2 oo c20
 obtain ⟨c0,c1,c2,c3,c4,c5,c6,c7,c8,c9,c10⟩:=XI.at HL.out.x
 obtain ⟨bm,nm,hbm,hown⟩:=(HM.out.fr HL.out.wm.fr).touches
 have hlk:=touch_look2 hown hk
 rw [show touchF 20= .nilFunc from by unfold touchF;simp] at hlk
 clear hown
 go_upto_region 9 with fail
 clear hlk hbm hk hz c0 c1 c2 c3 c4 c5 c6 c7 c8 c9 c10
 obtain ⟨c0,c1,c2,c3,c4,c5,c6,c7,c8,c9,c10⟩:=XI.at HL.out.x
 have fq:=fn_nil
 have fg:=fn_guard_nil
 go_upto_region 18 with (first
  |(refine HL.out.st.load rfl (.tmp 7) rfl rfl ?_)
  |(go_at_call 36;(with_reducible refine (HFA.out _).mono ?_);rintro e w4 ⟨rfl,rfl⟩)
  |(go_at_call 37;(with_reducible refine (HF.out _ HL.out.wm HL.out.res).mono ?_);rintro e w3 ⟨rfl,ht3⟩;replace HL:=Lib.hid (HL.out.tou ht3);clear ht3)
)
 rcases Int.decEq E 0 with hE|hE
 ·have hE1:(E !=0)=true:=by rw [bne_iff_ne];exact hE
  go_wp2_with (first
  |(refine HL.out.answer ST.zero_ok rfl (.tmp 8) (.tmp 85) rfl rfl rfl ?_;intro W9 HL)
)
  exact bodyPost_ret (results_st2 Tryz.results12 _ _ _ ST.zero HL.out.res rfl) rfl ⟨by rw [show exE E T2= .error E from if_neg hE];rfl,HL.out.end_⟩
 ·have hE1:(E !=0)=false:=by rw [hE];rfl
  go_wp2_with (first
  |(refine HL.out.res.load rfl (.tmp 8) rfl rfl ?_)
  |(refine HL.out.answer HL.out.res.ok rfl (.tmp 8) (.tmp 87) rfl rfl rfl ?_;intro W9 HL)
)
  exact bodyPost_ret (results_st2 Tryz.results12 _ _ _ T2 HL.out.res rfl) rfl ⟨by rw [show exE E T2= .ok T2 from if_pos hE];rfl,HL.out.end_⟩
theorem step_xo{w0 wr:World}{N bw mb:Nat}{ds:List MapD}{p:Nat}{RL:List Reg}{W:HW}(h:WM w0 N bw mb ds p RL W wr)(hm:MachAt w0)(k a c z:Int)(wd sh:Bool)(d r:Nat)(dp rl im:Int)(next:Nat)(s:ST)(hs:s.ok)(hx:(XI.mk k a c z wd sh d r dp rl im).ok)(hn:next<18446744073709551616)(hd:d<16)(hr:r<16)(n13:k≠13)(n14:k≠14)(n17:k≠17)(n18:k≠18)(n19:k≠19)(n15:k≠15)(n16:k≠16)(n20:k≠20)(t:ST)(hq:execM ⟨k,a,c,z,wd,sh,d,r,dp,rl,im⟩ (ST.mk s.r s.z s.s s.c s.o next)= .ok t)(hv:validM ⟨k,a,c,z,wd,sh,d,r,dp,rl,im⟩=true):
  Calls Tryz.prog 12 #[.pointer (some ⟨bw,0,none⟩),(XI.mk k a c z wd sh d r dp rl im).agg, .int .u64 next,s.agg] wr fun e w'=>StepTo w0 wr N bw mb ds p RL (stepM ds W ⟨k,a,c,z,wd,sh,d,r,dp,rl,im⟩ next s) e w':=by
 have hz:=i64_wf hx.size
 have hk:=i64_wf hx.kind
 simp only at hz hk
 have HV:Hid (∀W',Fr No w0 W'→Calls Tryz.prog 33 #[(XI.mk k a c z wd sh d r dp rl im).agg] W' fun e w'=>e= .returned (.bool true)∧Fr No W' w'):=fun W' hW=>by rw [←hv];exact valid_any _ hz W' (hm.fr hW)
 have HE0:Hid (∀t1 t2 t3,_):=SwS.start h (x:=⟨k,a,c,z,wd,sh,d,r,dp,rl,im⟩) hs
 have HM:=Lib.hid hm
 have HN:=Lib.hid hn
 have HD:=Lib.hid hd
 have HR:=Lib.hid hr
 have hdp:=hx.disp
 have hrl:=hx.rel
 simp only at hdp hrl
 have ht0:(ST.mk s.r s.z s.s s.c s.o next).ok:=⟨hs.len,hs.lt,hn⟩
 have HX:Hid (∀W',Fr No w0 W'→Calls Tryz.prog 38 #[(XI.mk k a c z wd sh d r dp rl im).agg,(ST.mk s.r s.z s.s s.c s.o next).agg] W' fun e w'=>e= .returned (exV (.ok t))∧Fr No W' w'):=fun W' hW=>by rw [←hq];exact exec_any _ _ W' hx ht0 (hm.fr hW)
 have HG:Hid (GoodX (.ok t)):=by rw [←hq];exact Lib.hid (execM_ok _ ht0)
 have HQ:Hid (stepM ds W ⟨k,a,c,z,wd,sh,d,r,dp,rl,im⟩ next s=((.ok t),W)):=by
  unfold stepM
  rw [if_neg (by rw [hv];simp)]
  simp only [n13,n14,n17,n18,n19,n15,n16,n20,if_false,or_self]
  rw [hq]
  exact Lib.hid rfl
 rw [HQ.out]
 clear HQ hm h hn hd hr hx hv
 clear ht0 hq
 have e15:(k==15)=false:=by rw [beq_eq_false_iff_ne];exact n15
 have e16:(k==16)=false:=by rw [beq_eq_false_iff_ne];exact n16
 have e20:(k==20)=false:=by rw [beq_eq_false_iff_ne];exact n20
 simp only [exV] at HX
 simp only [XI.agg,ST.agg] at*
 go_enter Tryz.func12,Tryz.ntmps12
 go_upto_region 1 with fail
 refine wp_world (fun W1=>Hid (SwS w0 wr N bw mb ds p RL W ⟨k,a,c,z,wd,sh,d,r,dp,rl,im⟩ s ST.zero W1)) (by exact HE0.out _ _ _) ?_
 intro W1 HL
 clear HE0
 obtain ⟨c0,c1,c2,c3,c4,c5,c6,c7,c8,c9,c10⟩:=XI.at HL.out.x
 go_upto_region 5 with (first
  |(go_at_call 10;(with_reducible refine (HL.out.wm.memory).mono ?_);rintro e w1 ⟨rfl,rfl⟩)
  |(go_at_call 33;(with_reducible refine (HV.out _ HL.out.wm.fr).mono ?_);rintro e w2 ⟨rfl,hf2⟩;replace HL:=Lib.hid (HL.out.no hf2);clear hf2)
)
 clear c0 c1 c2 c3 c4 c5 c6 c7 c8 c9 c10
 go_upto_region 6 with (first
  |(refine HL.out.st.load rfl (.tmp 7) rfl rfl ?_)
  |(refine HL.out.answer HL.out.st.ok rfl (.tmp 8) (.tmp 23) rfl rfl rfl ?_;intro W9 HL)
)
 have oo:=HL.out.res.open_
 have c20:=HL.out.res.at.2.2.2.2
 go_upto_region 7 with fail
 replace HL:=Lib.hid (HL.out.setPC HN.out)
 obtain ⟨W2,hW2⟩:∃W2,W2=W9.setCell ⟨wr.heap.size+1+1,20,none⟩ (.int .u64 next):=⟨_,rfl⟩
 rw [←hW2] at HL ⊢
 clear hW2 oo c20
 obtain ⟨c0,c1,c2,c3,c4,c5,c6,c7,c8,c9,c10⟩:=XI.at HL.out.x
 obtain ⟨bm,nm,hbm,hown⟩:=(HM.out.fr HL.out.wm.fr).touches
 have hlk:=touch_look2 hown hk
 rw [show touchF k= .nilFunc from by unfold touchF;rw [if_neg n13,if_neg n14,if_neg n17,if_neg n18,if_neg n19]] at hlk
 clear hown
 go_upto_region 9 with fail
 clear hlk hbm hk hz c0 c1 c2 c3 c4 c5 c6 c7 c8 c9 c10
 clear n13 n14 n15 n16 n17 n18 n19 n20
 obtain ⟨c0,c1,c2,c3,c4,c5,c6,c7,c8,c9,c10⟩:=XI.at HL.out.x
 have fq:=fn_nil
 have fg:=fn_guard_nil
 have HT:=Lib.hid (HG.out.1 t rfl)
 clear HG
 go_wp2_with (first
  |(refine HL.out.res.load rfl (.tmp 8) rfl rfl ?_)
  |(go_at_call 38;(with_reducible refine (HX.out _ HL.out.wm.fr).mono ?_);rintro e w6 ⟨rfl,hf6⟩;replace HL:=Lib.hid (HL.out.no hf6);clear hf6)
  |(refine HL.out.answer HT.out rfl (.tmp 8) (.tmp 34) rfl rfl rfl ?_;intro W9 HL)
  |(refine HL.out.answer HL.out.res.ok rfl (.tmp 8) (.tmp 87) rfl rfl rfl ?_;intro W9 HL)
)
 exact bodyPost_ret (results_st2 Tryz.results12 _ _ _ _ HL.out.res rfl) rfl ⟨rfl,HL.out.end_⟩
theorem step_xe{w0 wr:World}{N bw mb:Nat}{ds:List MapD}{p:Nat}{RL:List Reg}{W:HW}(h:WM w0 N bw mb ds p RL W wr)(hm:MachAt w0)(k a c z:Int)(wd sh:Bool)(d r:Nat)(dp rl im:Int)(next:Nat)(s:ST)(hs:s.ok)(hx:(XI.mk k a c z wd sh d r dp rl im).ok)(hn:next<18446744073709551616)(hd:d<16)(hr:r<16)(n13:k≠13)(n14:k≠14)(n17:k≠17)(n18:k≠18)(n19:k≠19)(n15:k≠15)(n16:k≠16)(n20:k≠20)(g:Int)(hq:execM ⟨k,a,c,z,wd,sh,d,r,dp,rl,im⟩ (ST.mk s.r s.z s.s s.c s.o next)= .error g)(hv:validM ⟨k,a,c,z,wd,sh,d,r,dp,rl,im⟩=true):
  Calls Tryz.prog 12 #[.pointer (some ⟨bw,0,none⟩),(XI.mk k a c z wd sh d r dp rl im).agg, .int .u64 next,s.agg] wr fun e w'=>StepTo w0 wr N bw mb ds p RL (stepM ds W ⟨k,a,c,z,wd,sh,d,r,dp,rl,im⟩ next s) e w':=by
 have hz:=i64_wf hx.size
 have hk:=i64_wf hx.kind
 simp only at hz hk
 have HV:Hid (∀W',Fr No w0 W'→Calls Tryz.prog 33 #[(XI.mk k a c z wd sh d r dp rl im).agg] W' fun e w'=>e= .returned (.bool true)∧Fr No W' w'):=fun W' hW=>by rw [←hv];exact valid_any _ hz W' (hm.fr hW)
 have HE0:Hid (∀t1 t2 t3,_):=SwS.start h (x:=⟨k,a,c,z,wd,sh,d,r,dp,rl,im⟩) hs
 have HM:=Lib.hid hm
 have HN:=Lib.hid hn
 have HD:=Lib.hid hd
 have HR:=Lib.hid hr
 have hdp:=hx.disp
 have hrl:=hx.rel
 simp only at hdp hrl
 have ht0:(ST.mk s.r s.z s.s s.c s.o next).ok:=⟨hs.len,hs.lt,hn⟩
 have HX:Hid (∀W',Fr No w0 W'→Calls Tryz.prog 38 #[(XI.mk k a c z wd sh d r dp rl im).agg,(ST.mk s.r s.z s.s s.c s.o next).agg] W' fun e w'=>e= .returned (exV (.error g))∧Fr No W' w'):=fun W' hW=>by rw [←hq];exact exec_any _ _ W' hx ht0 (hm.fr hW)
 have HG:Hid (GoodX (.error g)):=by rw [←hq];exact Lib.hid (execM_ok _ ht0)
 have HQ:Hid (stepM ds W ⟨k,a,c,z,wd,sh,d,r,dp,rl,im⟩ next s=((.error g),W)):=by
  unfold stepM
  rw [if_neg (by rw [hv];simp)]
  simp only [n13,n14,n17,n18,n19,n15,n16,n20,if_false,or_self]
  rw [hq]
  exact Lib.hid rfl
 rw [HQ.out]
 clear HQ hm h hn hd hr hx hv
 clear ht0 hq
 have e15:(k==15)=false:=by rw [beq_eq_false_iff_ne];exact n15
 have e16:(k==16)=false:=by rw [beq_eq_false_iff_ne];exact n16
 have e20:(k==20)=false:=by rw [beq_eq_false_iff_ne];exact n20
 simp only [exV] at HX
 simp only [XI.agg,ST.agg] at*
 go_enter Tryz.func12,Tryz.ntmps12
 go_upto_region 1 with fail
 refine wp_world (fun W1=>Hid (SwS w0 wr N bw mb ds p RL W ⟨k,a,c,z,wd,sh,d,r,dp,rl,im⟩ s ST.zero W1)) (by exact HE0.out _ _ _) ?_
 intro W1 HL
 clear HE0
 obtain ⟨c0,c1,c2,c3,c4,c5,c6,c7,c8,c9,c10⟩:=XI.at HL.out.x
 go_upto_region 5 with (first
  |(go_at_call 10;(with_reducible refine (HL.out.wm.memory).mono ?_);rintro e w1 ⟨rfl,rfl⟩)
  |(go_at_call 33;(with_reducible refine (HV.out _ HL.out.wm.fr).mono ?_);rintro e w2 ⟨rfl,hf2⟩;replace HL:=Lib.hid (HL.out.no hf2);clear hf2)
)
 clear c0 c1 c2 c3 c4 c5 c6 c7 c8 c9 c10
 go_upto_region 6 with (first
  |(refine HL.out.st.load rfl (.tmp 7) rfl rfl ?_)
  |(refine HL.out.answer HL.out.st.ok rfl (.tmp 8) (.tmp 23) rfl rfl rfl ?_;intro W9 HL)
)
 have oo:=HL.out.res.open_
 have c20:=HL.out.res.at.2.2.2.2
 go_upto_region 7 with fail
 replace HL:=Lib.hid (HL.out.setPC HN.out)
 obtain ⟨W2,hW2⟩:∃W2,W2=W9.setCell ⟨wr.heap.size+1+1,20,none⟩ (.int .u64 next):=⟨_,rfl⟩
 rw [←hW2] at HL ⊢
 clear hW2 oo c20
 obtain ⟨c0,c1,c2,c3,c4,c5,c6,c7,c8,c9,c10⟩:=XI.at HL.out.x
 obtain ⟨bm,nm,hbm,hown⟩:=(HM.out.fr HL.out.wm.fr).touches
 have hlk:=touch_look2 hown hk
 rw [show touchF k= .nilFunc from by unfold touchF;rw [if_neg n13,if_neg n14,if_neg n17,if_neg n18,if_neg n19]] at hlk
 clear hown
 go_upto_region 9 with fail
 clear hlk hbm hk hz c0 c1 c2 c3 c4 c5 c6 c7 c8 c9 c10
 clear n13 n14 n15 n16 n17 n18 n19 n20
 obtain ⟨c0,c1,c2,c3,c4,c5,c6,c7,c8,c9,c10⟩:=XI.at HL.out.x
 have fq:=fn_nil
 have fg:=fn_guard_nil
 have hg:(g !=0)=true:=by rw [bne_iff_ne];exact HG.out.2 g rfl
 clear HG
 go_wp2_with (first
  |(refine HL.out.res.load rfl (.tmp 8) rfl rfl ?_)
  |(go_at_call 38;(with_reducible refine (HX.out _ HL.out.wm.fr).mono ?_);rintro e w6 ⟨rfl,hf6⟩;replace HL:=Lib.hid (HL.out.no hf6);clear hf6)
  |(refine HL.out.answer ST.zero_ok rfl (.tmp 8) (.tmp 34) rfl rfl rfl ?_;intro W9 HL)
  |(refine HL.out.answer ST.zero_ok rfl (.tmp 8) (.tmp 85) rfl rfl rfl ?_;intro W9 HL)
)
 exact bodyPost_ret (results_st2 Tryz.results12 _ _ _ ST.zero HL.out.res rfl) rfl ⟨rfl,HL.out.end_⟩
theorem step_not{w0 wr:World}{N bw mb:Nat}{ds:List MapD}{p:Nat}{RL:List Reg}{W:HW}(h:WM w0 N bw mb ds p RL W wr)(hm:MachAt w0)(x:XI)(next:Nat)(s:ST)(hs:s.ok)(hx:x.ok)(hv:validM x=false):
  Calls Tryz.prog 12 #[.pointer (some ⟨bw,0,none⟩),x.agg, .int .u64 next,s.agg] wr fun e w'=>StepTo w0 wr N bw mb ds p RL (stepM ds W x next s) e w':=by
 have hz:=i64_wf hx.size
 have HV:Hid (∀W',Fr No w0 W'→Calls Tryz.prog 33 #[x.agg] W' fun e w'=>e= .returned (.bool false)∧Fr No W' w'):=fun W' hW=>by rw [←hv];exact valid_any x hz W' (hm.fr hW)
 have HE0:Hid (∀t1 t2 t3,_):=SwS.start h (x:=x) hs
 have HQ:Hid (stepM ds W x next s=(.error 2,W)):=by
  unfold stepM
  rw [if_pos hv]
  exact Lib.hid rfl
 rw [HQ.out]
 clear HQ hm h hx hv hz
 obtain ⟨k,a,c,z,wd,sh,d,r,dp,rl,im⟩:=x
 simp only [XI.agg,ST.agg] at*
 go_enter Tryz.func12,Tryz.ntmps12
 go_upto_region 1 with fail
 refine wp_world (fun W1=>Hid (SwS w0 wr N bw mb ds p RL W ⟨k,a,c,z,wd,sh,d,r,dp,rl,im⟩ s ST.zero W1)) (by exact HE0.out _ _ _) ?_
 intro W1 HL
 clear HE0
 obtain ⟨c0,c1,c2,c3,c4,c5,c6,c7,c8,c9,c10⟩:=XI.at HL.out.x
 go_wp2_with (first
  |(go_at_call 10;(with_reducible refine (HL.out.wm.memory).mono ?_);rintro e w1 ⟨rfl,rfl⟩)
  |(go_at_call 33;(with_reducible refine (HV.out _ HL.out.wm.fr).mono ?_);rintro e w2 ⟨rfl,hf2⟩;replace HL:=Lib.hid (HL.out.no hf2);clear hf2)
  |(refine HL.out.answer ST.zero_ok rfl (.tmp 8) (.tmp 22) rfl rfl rfl ?_;intro W9 HL))
 exact bodyPost_ret (results_st2 Tryz.results12 _ _ _ ST.zero HL.out.res rfl) rfl ⟨rfl,HL.out.end_⟩
theorem step_any{w0 wr:World}{N bw mb:Nat}{ds:List MapD}{p:Nat}{RL:List Reg}{W:HW}(h:WM w0 N bw mb ds p RL W wr)(hm:MachAt w0)(x:XI)(next:Nat)(s:ST)(hs:s.ok)(hx:x.ok)(hn:next<18446744073709551616):
  Calls Tryz.prog 12 #[.pointer (some ⟨bw,0,none⟩),x.agg, .int .u64 next,s.agg] wr fun e w'=>StepTo w0 wr N bw mb ds p RL (stepM ds W x next s) e w':=by
 cases hv:validM x with
 |false=>exact step_not h hm x next s hs hx hv
 |true=>
  obtain ⟨k,hk1,hk2,hk,hmx⟩:=valid_may hv
  obtain ⟨d,r,hd,hr,ed,er⟩:=hmx.regs
  clear hmx
  obtain ⟨kk,a,c,z,wd,sh,dd,rr,dp,rl,im⟩:=x
  simp only at hk ed er
  subst hk ed er
  by_cases k13:k=13
  ·subst k13;exact step_13 h hm a c z wd sh d r dp rl im next s hs hx hn hd hr hv
  by_cases k14:k=14
  ·subst k14;exact step_14 h hm a c z wd sh d r dp rl im next s hs hx hn hd hr hv
  by_cases k17:k=17
  ·subst k17;exact step_17 h hm a c z wd sh d r dp rl im next s hs hx hn hd hr hv
  by_cases k18:k=18
  ·subst k18;exact step_18 h hm a c z wd sh d r dp rl im next s hs hx hn hd hr hv
  by_cases k19:k=19
  ·subst k19;exact step_19 h hm a c z wd sh d r dp rl im next s hs hx hn hd hr hv
  by_cases k15:k=15
  ·subst k15;exact step_15 h hm a c z wd sh d r dp rl im next s hs hx hn hd hr hv
  by_cases k16:k=16
  ·subst k16
   cases ht:takenM c s with
   |false=>exact step_16f h hm a c z wd sh d r dp rl im next s hs hx hn hd hr ht hv
   |true=>exact step_16t h hm a c z wd sh d r dp rl im next s hs hx hn hd hr ht hv
  by_cases k20:k=20
  ·subst k20
   cases hc:argHas (idM (farM next rl)) with
   |false=>exact step_20n h hm a c z wd sh d r dp rl im next s hs hx hn hd hr hc hv
   |true=>exact step_20y h hm a c z wd sh d r dp rl im next s hs hx hn hd hr hc hv
  cases hq:execM ⟨k,a,c,z,wd,sh,d,r,dp,rl,im⟩ (ST.mk s.r s.z s.s s.c s.o next) with
  |ok t=>exact step_xo h hm k a c z wd sh d r dp rl im next s hs hx hn hd hr (by omega) (by omega) (by omega) (by omega) (by omega) (by omega) (by omega) (by omega) t hq hv
  |error g=>exact step_xe h hm k a c z wd sh d r dp rl im next s hs hx hn hd hr (by omega) (by omega) (by omega) (by omega) (by omega) (by omega) (by omega) (by omega) g hq hv
theorem GoodX.exE{e:Int}{t:ST}(ht:t.ok):GoodX (exE e t):=by
 unfold Go.Proofs.YtjcgmhlbkheadaaGreatDoor.exE
 split
 ·exact GoodX.ok_ ht
 ·rename_i h;exact GoodX.err h
theorem good_ite{p:Prop}[Decidable p]{a b:Except Int ST×HW}(ha:GoodX a.1)(hb:GoodX b.1):GoodX (if p then a else b).1:=by split<;>assumption
theorem lostM_ok{t:ST}(ht:t.ok){v:Nat}(hv:v<18446744073709551616):(lostM t v).ok:=by
 unfold lostM
 exact ((((((((ht.set 1 (by decide)).set 2 (by decide)).set 6 (by decide)).set 7 (by decide)).set 8 (by decide)).set 9 (by decide)).set 10 (by decide)).set 11 (by decide)).set 0 hv
theorem stepM_ok{w0 wr:World}{N bw mb:Nat}{ds:List MapD}{p:Nat}{RL:List Reg}{W:HW}(h:WM w0 N bw mb ds p RL W wr)(x:XI){next:Nat}{s:ST}(hs:s.ok)(hn:next<18446744073709551616):GoodX (stepM ds W x next s).1:=by
 have ht:(ST.mk s.r s.z s.s s.c s.o next).ok:=⟨hs.len,hs.lt,hn⟩
 have hta:(touchM x s).1<18446744073709551616:=by
  unfold touchM
  split;·decide
  split;·exact farM_lt _ _
  split;·exact farM_lt _ _
  split;·exact farM_lt _ _
  split
  ·exact hs.reg 4
  ·decide
 unfold stepM
 refine good_ite (GoodX.err (by decide)) ?_
 dsimp only
 refine good_ite (GoodX.exE (ht.set _ (mread_lt _ _ _))) ?_
 refine good_ite (GoodX.exE ht) ?_
 refine good_ite (GoodX.exE (ht.set _ hta)) ?_
 refine good_ite (GoodX.exE ((ht.set _ (farM_lt _ _)).set _ (mread_lt _ _ _))) ?_
 refine good_ite (GoodX.exE ((ht.set _ (farM_lt _ _)).at_ (mread_lt _ _ _))) ?_
 refine good_ite (GoodX.ok_ (ht.at_ (farM_lt _ _))) ?_
 refine good_ite (GoodX.ok_ (okIte (ht.at_ (farM_lt _ _)) ht)) ?_
 refine good_ite ?_ (execM_ok x ht)
 refine good_ite (GoodX.err (by decide)) (GoodX.exE (lostM_ok ht ?_))
 have:=callM_lt h (idM (farM next x.rel)) (s.reg 7) (s.reg 6) (s.reg 2) (s.reg 1)
 omega
end Go.Proofs.YtjcgmhlbkheadaaGreatDoor
