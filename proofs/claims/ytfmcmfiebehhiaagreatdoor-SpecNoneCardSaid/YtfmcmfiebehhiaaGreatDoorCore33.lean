/- package machine: Step of the kinds that the chapter's examples have. package spec: a step of a path. -/
import Derived.Test.YtfmcmfiebehhiaaGreatDoorCore27
import Derived.Test.YtfmcmfiebehhiaaGreatDoorCore32
import Derived.Deep.RegionHeld3
import Derived.Deep.CutRange
set_option linter.all false
set_option linter.unusedVariables false
set_option linter.unusedSimpArgs false
set_option maxRecDepth 100000
set_option maxHeartbeats 4000000
namespace Go.Proofs.YtfmcmfiebehhiaaGreatDoor
open Go.Proofs.Tryz
open Go.RowKit
def okk(k:Int):Bool:=decide (k=2∨k=3∨k=4∨k=5∨k=13∨k=14∨k=15∨k=16∨k=19∨k=21)
theorem exec_okk(x:XI)(s:ST)(w:World)(hx:x.ok)(hs:s.ok)(hm:MachAt w)(hv:validM x=true)(hk5:x.kind=2∨x.kind=3∨x.kind=4∨x.kind=5∨x.kind=21):
  Calls prog 77 #[x.agg,s.agg] w fun e w'=>e= .returned (exV (execM x s))∧Fr No w w':=by
 obtain ⟨k,hk1,hk2,hk,hmx⟩:=valid_may hv
 obtain ⟨d,r,hd,hr,ed,er⟩:=hmx.regs
 have wz:=i64_wf hx.size
 have wa:=i64_wf hx.alu
 clear hmx hx
 obtain ⟨kk,a,c,z,wd,sh,dd,rr,dp,rl,im⟩:=x
 simp only at hk ed er wz wa hk5
 subst hk ed er
 rcases hk5 with h5|h5|h5|h5|h5
 ·obtain rfl:k=2:=by omega
  exact exec_2 a c z wd sh d r dp rl im s w hs hm wz wa hd hr hv
 ·obtain rfl:k=3:=by omega
  exact exec_3 a c z wd sh d r dp rl im s w hs hm wz wa hd hr hv
 ·obtain rfl:k=4:=by omega
  by_cases h7:a=7
  ·exact exec_4c a c z wd sh d r dp rl im s w hs hm wz wa hd hr h7 hv
  ·exact exec_4 a c z wd sh d r dp rl im s w hs hm wz wa hd hr h7 hv
 ·obtain rfl:k=5:=by omega
  by_cases h7:a=7
  ·exact exec_5c a c z wd sh d r dp rl im s w hs hm wz wa hd hr h7 hv
  ·exact exec_5 a c z wd sh d r dp rl im s w hs hm wz wa hd hr h7 hv
 ·obtain rfl:k=21:=by omega
  exact exec_21 a c z wd sh d r dp rl im s w hs hm wz wa hd hr hv
theorem exec_there{x:XI}{s:ST}(hv:validM x=true)(hk5:x.kind=2∨x.kind=3∨x.kind=4∨x.kind=5∨x.kind=21):∃t,execM x s= .ok t:=by
 unfold execM
 rw [if_neg (by rw [hv];simp)]
 dsimp only
 rcases hk5 with h5|h5|h5|h5|h5<;>simp only [h5,Int.reduceEq,↓reduceIte,or_self,or_false,false_or,or_true,true_or]<;>first|exact ⟨_,rfl⟩|(split<;>exact ⟨_,rfl⟩)
theorem step_xk{w0 wr:World}{N bw mb:Nat}{ds:List MapD}{p:Nat}{RL:RQ}{W:HW}(h:WM w0 N bw mb ds p RL W wr)(hm:MachAt w0)(k a c z:Int)(wd sh:Bool)(d r:Nat)(dp rl im:Int)(next:Nat)(s:ST)(hs:s.ok)(hx:(XI.mk k a c z wd sh d r dp rl im).ok)(hn:next<18446744073709551616)(hd:d<16)(hr:r<16)(hk5:k=2∨k=3∨k=4∨k=5∨k=21)(n13:k≠13)(n14:k≠14)(n17:k≠17)(n18:k≠18)(n19:k≠19)(n15:k≠15)(n16:k≠16)(n20:k≠20)(t:ST)(hq:execM ⟨k,a,c,z,wd,sh,d,r,dp,rl,im⟩ (ST.mk s.r s.z s.s s.c s.o next)= .ok t)(hv:validM ⟨k,a,c,z,wd,sh,d,r,dp,rl,im⟩=true):
  Calls prog 43 #[.pointer (some ⟨bw,0,none⟩),(XI.mk k a c z wd sh d r dp rl im).agg, .int .u64 next,s.agg] wr fun e w'=>StepTo w0 wr N bw mb ds p RL (stepM ds W ⟨k,a,c,z,wd,sh,d,r,dp,rl,im⟩ next s) e w':=by
 have hz:=i64_wf hx.size
 have hk:=i64_wf hx.kind
 simp only at hz hk
 have HV:Hid (∀W',Fr No w0 W'→Calls prog 69 #[(XI.mk k a c z wd sh d r dp rl im).agg] W' fun e w'=>e= .returned (.bool true)∧Fr No W' w'):=fun W' hW=>by rw [←hv];exact valid_any _ hz W' (hm.fr hW)
 have HE0:Hid (∀t1 t2 t3,_):=SwS.start h (x:=⟨k,a,c,z,wd,sh,d,r,dp,rl,im⟩) hs
 have HM:=Lib.hid hm
 have HN:=Lib.hid hn
 have HD:=Lib.hid hd
 have HR:=Lib.hid hr
 have hdp:=hx.disp
 have hrl:=hx.rel
 simp only at hdp hrl
 have ht0:(ST.mk s.r s.z s.s s.c s.o next).ok:=⟨hs.len,hs.lt,hn⟩
 have HX:Hid (∀W',Fr No w0 W'→Calls prog 77 #[(XI.mk k a c z wd sh d r dp rl im).agg,(ST.mk s.r s.z s.s s.c s.o next).agg] W' fun e w'=>e= .returned (exV (.ok t))∧Fr No W' w'):=fun W' hW=>by rw [←hq];exact exec_okk _ _ W' hx ht0 (hm.fr hW) hv hk5
 have HG:Hid (GoodX (.ok t)):=by rw [←hq];exact Lib.hid (execM_ok _ ht0)
 have HQ:Hid (stepM ds W ⟨k,a,c,z,wd,sh,d,r,dp,rl,im⟩ next s=((.ok t),W)):=by
  unfold stepM
  rw [if_neg (by rw [hv];simp)]
  simp only [n13,n14,n17,n18,n19,n15,n16,n20,if_false,or_self]
  rw [hq]
  exact Lib.hid rfl
 rw [HQ.out]
 clear HQ hm h hn hd hr hx hv
 clear ht0 hq
 have e15:(k==15)=false:=by rw [beq_eq_false_iff_ne];exact n15
 have e16:(k==16)=false:=by rw [beq_eq_false_iff_ne];exact n16
 have e20:(k==20)=false:=by rw [beq_eq_false_iff_ne];exact n20
 simp only [exV] at HX
 simp only [XI.agg,ST.agg] at*
 go_enter func43,ntmps43
 go_upto_region 1 with fail
 refine wp_world (fun W1=>Hid (SwS w0 wr N bw mb ds p RL W ⟨k,a,c,z,wd,sh,d,r,dp,rl,im⟩ s ST.zero W1)) (by exact HE0.out _ _ _) ?_
 intro W1 HL
 clear HE0
 obtain ⟨c0,c1,c2,c3,c4,c5,c6,c7,c8,c9,c10⟩:=XI.at HL.out.x
 go_upto_region 5 with (first
  |(go_at_call 13;(with_reducible refine (HL.out.wm.memory).mono ?_);rintro e w1 ⟨rfl,rfl⟩)
  |(go_at_call 69;(with_reducible refine (HV.out _ HL.out.wm.fr).mono ?_);rintro e w2 ⟨rfl,hf2⟩;replace HL:=Lib.hid (HL.out.no hf2);clear hf2)
)
 clear c0 c1 c2 c3 c4 c5 c6 c7 c8 c9 c10
 go_upto_region 6 with (first
  |(refine HL.out.st.load rfl (.tmp 7) rfl rfl ?_)
  |(refine HL.out.answer HL.out.st.ok rfl (.tmp 8) (.tmp 23) rfl rfl rfl ?_;intro W9 HL)
)
 have oo:=HL.out.res.open_
 have c20:=HL.out.res.at.2.2.2.2
 go_upto_region 7 with fail
 replace HL:=Lib.hid (HL.out.setPC HN.out)
 obtain ⟨W2,hW2⟩:∃W2,W2=W9.setCell ⟨wr.heap.size+1+1,20,none⟩ (.int .u64 next):=⟨_,rfl⟩
 rw [←hW2] at HL ⊢
 clear hW2 oo c20
 obtain ⟨c0,c1,c2,c3,c4,c5,c6,c7,c8,c9,c10⟩:=XI.at HL.out.x
 obtain ⟨bm,nm,hbm,hown⟩:=(HM.out.fr HL.out.wm.fr).touches
 have hlk:=touch_look2 hown hk
 rw [show touchF k= .nilFunc from by unfold touchF;rw [if_neg n13,if_neg n14,if_neg n17,if_neg n18,if_neg n19]] at hlk
 clear hown
 go_upto_region 9 with fail
 clear hlk hbm hk hz c0 c1 c2 c3 c4 c5 c6 c7 c8 c9 c10
 clear n13 n14 n15 n16 n17 n18 n19 n20
 obtain ⟨c0,c1,c2,c3,c4,c5,c6,c7,c8,c9,c10⟩:=XI.at HL.out.x
 have fq:=fn_nil
 have fg:=fn_guard_nil
 have HT:=Lib.hid (HG.out.1 t rfl)
 clear HG
 go_wp2_with (first
  |(refine HL.out.res.load rfl (.tmp 8) rfl rfl ?_)
  |(go_at_call 77;(with_reducible refine (HX.out _ HL.out.wm.fr).mono ?_);rintro e w6 ⟨rfl,hf6⟩;replace HL:=Lib.hid (HL.out.no hf6);clear hf6)
  |(refine HL.out.answer HT.out rfl (.tmp 8) (.tmp 34) rfl rfl rfl ?_;intro W9 HL)
  |(refine HL.out.answer HL.out.res.ok rfl (.tmp 8) (.tmp 87) rfl rfl rfl ?_;intro W9 HL)
)
 exact bodyPost_ret (results_st2 results43 _ _ _ _ HL.out.res rfl) rfl ⟨rfl,HL.out.end_⟩
theorem step_okk{w0 wr:World}{N bw mb:Nat}{ds:List MapD}{p:Nat}{RL:RQ}{W:HW}(h:WM w0 N bw mb ds p RL W wr)(hm:MachAt w0)(x:XI)(next:Nat)(s:ST)(hs:s.ok)(hx:x.ok)(hn:next<18446744073709551616)(hv:validM x=true)(hok:okk x.kind=true):
  Calls prog 43 #[.pointer (some ⟨bw,0,none⟩),x.agg, .int .u64 next,s.agg] wr fun e w'=>StepTo w0 wr N bw mb ds p RL (stepM ds W x next s) e w':=by
 have hok2:=of_decide_eq_true hok
 clear hok
 obtain ⟨k,hk1,hk2,hk,hmx⟩:=valid_may hv
 obtain ⟨d,r,hd,hr,ed,er⟩:=hmx.regs
 clear hmx
 obtain ⟨kk,a,c,z,wd,sh,dd,rr,dp,rl,im⟩:=x
 simp only at hk ed er hok2
 subst hk ed er
 by_cases k13:k=13
 ·subst k13;exact step_13 h hm a c z wd sh d r dp rl im next s hs hx hn hd hr hv
 by_cases k14:k=14
 ·subst k14;exact step_14 h hm a c z wd sh d r dp rl im next s hs hx hn hd hr hv
 by_cases k19:k=19
 ·subst k19;exact step_19 h hm a c z wd sh d r dp rl im next s hs hx hn hd hr hv
 by_cases k15:k=15
 ·subst k15;exact step_15 h hm a c z wd sh d r dp rl im next s hs hx hn hd hr hv
 by_cases k16:k=16
 ·subst k16
  cases ht:takenM c s with
  |false=>exact step_16f h hm a c z wd sh d r dp rl im next s hs hx hn hd hr ht hv
  |true=>exact step_16t h hm a c z wd sh d r dp rl im next s hs hx hn hd hr ht hv
 have hk5:(k:Int)=2∨(k:Int)=3∨(k:Int)=4∨(k:Int)=5∨(k:Int)=21:=by omega
 obtain ⟨t,hq⟩:=exec_there (x:=⟨k,a,c,z,wd,sh,d,r,dp,rl,im⟩) (s:=ST.mk s.r s.z s.s s.c s.o next) hv hk5
 exact step_xk h hm k a c z wd sh d r dp rl im next s hs hx hn hd hr hk5 (by omega) (by omega) (by omega) (by omega) (by omega) (by omega) (by omega) (by omega) t hq hv
theorem touch_lt(x:XI){s:ST}(hs:s.ok):(touchM x s).1<18446744073709551616:=by
 unfold touchM
 split
 ·exact (by decide:0<18446744073709551616)
 ·split
  ·exact farM_lt _ _
  ·split
   ·exact farM_lt _ _
   ·split
    ·exact farM_lt _ _
    ·split
     ·exact hs.reg 4
     ·exact (by decide:0<18446744073709551616)
theorem touch_n{x:XI}(hx:x.ok)(s:ST):(touchM x s).2≤9223372036854775807:=by
 unfold touchM
 split
 ·exact (by decide:(0:Int)≤9223372036854775807)
 ·split
  ·exact hx.size.2
  ·split
   ·exact hx.size.2
   ·split
    ·exact (by decide:(8:Int)≤9223372036854775807)
    ·split
     ·exact (by decide:(8:Int)≤9223372036854775807)
     ·exact (by decide:(0:Int)≤9223372036854775807)
def wasM(q:PM)(x:XI):List UInt8:=if x.kind=14 then (mtext q.W.m (touchM x q.s).1 (touchM x q.s).2).1 else []
theorem Tryz.info_sto:(prog.info? 119).map (fun i=>(i.zero,i.size,i.bytes))=some (some (.agg #[.int .u64 0, .string ⟨#[]⟩]),2,24):=by kernel_rfl
theorem was_len{q:PM}(x:XI)(h:MemOk q.W.m):(wasM q x).length≤140737488355328:=by
 unfold wasM
 split
 ·unfold mtext
  split
  ·exact Nat.zero_le _
  ·split
   ·exact Nat.zero_le _
   ·split
    ·exact Nat.zero_le _
    ·rename_i i _
     cases hr:q.W.m[i]? with
     |none=>exact Nat.zero_le _
     |some r=>
      have:=h.2 r (List.mem_of_getElem? hr)
      show (r.cut _ _).length≤_
      unfold Reg.cut
      simp only [List.length_take,List.length_drop]
      omega
 ·exact Nat.zero_le _
theorem stepP_err{ds:List MapD}{q:PM}{x:XI}{next:Nat}{e:Int}{W':HW}(h:stepM ds q.W x next q.s=(.error e,W')):stepP ds q x next=(e,{q with W:=W'}):=by
 unfold stepP;rw [h]
theorem stepP_ok{ds:List MapD}{q:PM}{x:XI}{next:Nat}{s:ST}{W':HW}(h:stepM ds q.W x next q.s=(.ok s,W')):stepP ds q x next=(0,⟨W',s,if x.kind=14 then q.waits++ [((touchM x q.s).1,wasM q x)] else if drainsM x.kind then [] else q.waits⟩):=by
 unfold stepP wasM
 rw [h]
 by_cases h14:x.kind=14
 ·simp only [if_pos h14]
 ·simp only [if_neg h14]
def stOf:Except Int ST→ST
 | .ok s=>s
 | .error _=>ST.zero
def erOf:Except Int ST→Int
 | .ok _=>0
 | .error e=>e
theorem exV_is(r:Except Int ST):exV r= .tuple #[(stOf r).agg, .int .i64 (erOf r)]:=by cases r<;>rfl
structure PwS(w0:World)(N bw mb:Nat)(ds:List MapD)(pk:Nat)(RL:RQ)(bp:Nat)(P:Nat→Prop)(q:PM)(E:Except Int ST×HW)(bx:Nat)(x:XI)(wc:World)(h10 h14 h15:Option Value)(W:World):Prop where
 path:∃W2,PathAt w0 N bw mb ds pk RL bp P {q with W:=W2} W∧(h10=none→W2=q.W)∧(h10≠none→W2=E.2)
 val:∀v,h10=some v→v=exV E.1
 dep:h14=none→h15=none
 box:∀v,h14=some v→(∃b,v= .pointer (some ⟨b,0,none⟩)∧wc.heap.size≤b∧SAt W b ST.zero∧h15=none)∨∃b,v= .pointer (some ⟨b,0,none⟩)∧wc.heap.size≤b∧SAt W b (stOf E.1)∧h15≠none
 x:XB W bx x
 fr:Fr (fun k=>Zof w0 N RL k∨wc.heap.size≤k) wc W
def PwE(w0:World)(N bw mb:Nat)(ds:List MapD)(pk:Nat)(RL:RQ)(bp:Nat)(P:Nat→Prop)(q:PM)(E:Except Int ST×HW)(bx:Nat)(x:XI)(wc:World)(v:Value)(W:World):Prop:=
 ∃b,v= .pointer (some ⟨b,0,none⟩)∧wc.heap.size≤b∧SAt W b (stOf E.1)∧PathAt w0 N bw mb ds pk RL bp P {q with W:=E.2} W∧XB W bx x∧Fr (fun k=>Zof w0 N RL k∨wc.heap.size≤k) wc W
theorem pstep_any{w0 w:World}{N bw mb pk bp:Nat}{ds:List MapD}{RL:RQ}{P:Nat→Prop}{q:PM}(h:PathAt w0 N bw mb ds pk RL bp P q w)(hm:MachAt w0)(x:XI)(next:Nat)(hx:x.ok)(hn:next<18446744073709551616)(hl:q.waits.length≤1000000)(hv:validM x=true)(hk:okk x.kind=true):
  Calls prog 19 #[.pointer (some ⟨bp,0,none⟩),x.agg, .int .u64 next] w fun e w'=>e= .returned (.int .i64 (stepP ds q x next).1)∧∃P',Hid (PathAt w0 N bw mb ds pk RL bp P' (stepP ds q x next).2 w')∧Hid (∀k,P' k→P k∨w.heap.size≤k)∧Hid (Fr (fun k=>P k∨Zof w0 N RL k) w w'):=by
 have HB:Hid (∀t1,Fr No w (w.alloc (.cells x.cells.toArray t1))∧XB (w.alloc (.cells x.cells.toArray t1)) w.heap.size x):=fun t1=>⟨fr_alloc _ _,XB.new w _ _⟩
 have HH:=Lib.hid h
 have HM:=Lib.hid hm
 have HVK:=Lib.hid (And.intro hv hk)
 clear h hm hv hk
 simp only [XI.agg]
 go_enter func19,ntmps19
 go_upto_region 2 with fail
 refine wp_box (fun W1=>Hid (Fr No w W1∧XB W1 w.heap.size x)) (by exact HB.out _) ?_
 clear HB
 intro W1 HL
 have HP:=Lib.hid (HH.out.no HL.out.1)
 have HTC:Hid (∀W,Fr No W1 W→Calls prog 36 #[.agg #[.int .i64 x.kind, .int .i64 x.alu, .int .i64 x.cond, .int .i64 x.size, .bool x.wide, .bool x.short, .int .i64 x.dst, .int .i64 x.src, .int .i32 x.disp, .int .i32 x.rel, .int .i64 x.imm], .agg q.s.cells.toArray] W fun e w'=>e= .returned (touV (touchM x q.s))∧Fr No W w'):=fun W hW=>touch_any x q.s W hx HP.out.ok (HM.out.fr (HP.out.no hW).wm.fr)
 go_cut [8,9] from 12 to 20 (fun s8 s9 wx=>s8= .int .u64 (touchM x q.s).1∧s9= .int .i64 (touchM x q.s).2∧Hid (Fr No W1 wx))
 case first=>
  rename_i J K' hJ hK
  refine wp_region_made [(4, .pointer (some ⟨w.heap.size,0,none⟩)),(0, .pointer (some ⟨bp,0,none⟩))]
   [some x.agg,some (.pointer (some ⟨bp,0,none⟩)),some (.pointer (some ⟨bp,0,none⟩)),some (.pointer (some ⟨bp,1,none⟩)),some (.agg q.s.cells.toArray),none,some (touV (touchM x q.s)),some (.int .u64 (touchM x q.s).1),some (.int .i64 (touchM x q.s).2),some (.int .u64 (touchM x q.s).1),some (.int .i64 (touchM x q.s).2)]
   (fun h W=>Fr No W1 W∧∀v,h 5=some v→v=touV (touchM x q.s)) (by kernel_rfl) (by kernel_rfl) (by kernel_rfl) (by kernel_rfl) ⟨rfl,rfl,trivial⟩ ⟨(Fr.refl No W1).drew,fun v hv=>by cases hv⟩ ?_ ?_ ?_
  ·intro k o c ho hc h A' W' hS hpre hb
   have HPW:=HP.out.no hS.1
   match k,ho,hc,hpre with
   |0,ho,hc,hpre=>cases ho;cases hc;exact do_load (base_val hb 4 (by simp)) (run_loadAt_mid W' w.heap.size 0 _ _ _ (HL.out.2.fr hS.1 id).cells underlying48 rfl (XI.info x))
   |1,ho,hc,hpre=>cases ho;cases hc;exact do_move (base_val hb 0 (by simp))
   |2,ho,hc,hpre=>
    cases ho;cases hc
    exact do_nil (pre_val hpre 1 14 (by kernel_rfl) rfl rfl)
   |3,ho,hc,hpre=>
    cases ho;cases hc
    have e:=pre_val hpre 2 15 (by kernel_rfl) rfl rfl
    show (execOp A'.eval ⟨some 16, .fieldAddr 74 (.tmp 15) 1,_,_,_,_⟩).run prog W'=_
    simp only [execOp,e]
    first|kernel_rfl|simp [go_sem]
   |4,ho,hc,hpre=>cases ho;cases hc;exact do_load (pre_val hpre 3 16 (by kernel_rfl) rfl rfl) (run_loadAt_mid W' bp 1 _ _ _ HPW.cellsS underlying68 rfl (ST.info HPW.ok))
   |5,ho,hc,hpre=>cases hc
   |6,ho,hc,hpre=>
    cases ho;cases hc
    obtain ⟨v,h1,h2⟩:=pre_made1 hpre 5 18 (by kernel_rfl) rfl rfl
    exact do_move (h2.trans (hS.2 v h1))
   |7,ho,hc,hpre=>cases ho;cases hc;exact do_extract (pre_val hpre 6 12 (by kernel_rfl) rfl rfl) rfl
   |8,ho,hc,hpre=>cases ho;cases hc;exact do_extract (pre_val hpre 6 12 (by kernel_rfl) rfl rfl) rfl
   |9,ho,hc,hpre=>cases ho;cases hc;exact do_assign (pre_val hpre 7 19 (by kernel_rfl) rfl rfl)
   |10,ho,hc,hpre=>cases ho;cases hc;exact do_assign (pre_val hpre 8 20 (by kernel_rfl) rfl rfl)
   |n+11,ho,hc,hpre=>cases hc
  ·intro k o ho hc h A' W' hdf hi hS hpre hb
   match k,ho,hc,hi,hpre with
   |5,ho,hc,hi,hpre=>
    cases ho
    have e1:A'.eval (.tmp 13)=x.agg:=pre_val2 hpre 0 13 (by kernel_rfl) rfl rfl
    have e2:A'.eval (.tmp 17)= .agg q.s.cells.toArray:=pre_val2 hpre 4 17 (by kernel_rfl) rfl rfl
    refine do_call (f:=36) (args:= #[x.agg, .agg q.s.cells.toArray]) ?_ ((HTC.out W' hS.1).mono fun e w' hh=> ?_)
    ·show (execOp A'.eval ⟨some 18, .call {callee:= .value (.func 36),args:= #[.tmp 13, .tmp 17],argTypes:=_},_,_,_,_⟩).run prog W'=_
     simp [execOp,resolve,invoke,e1,e2,go_sem]
     exact ⟨by rw [←Array.getD_eq_getD_getElem?];exact e1,by rw [←Array.getD_eq_getD_getElem?];exact e2⟩
    ·obtain ⟨rfl,hf⟩:=hh
     exact ⟨_,rfl,_,rfl,hS.1.trans hf,fun v hv=>by unfold setH at hv;simpa using hv.symm⟩
   |0,ho,hc,hi,hpre=>cases hc
   |1,ho,hc,hi,hpre=>cases hc
   |2,ho,hc,hi,hpre=>cases hc
   |3,ho,hc,hi,hpre=>cases hc
   |4,ho,hc,hi,hpre=>cases hc
   |6,ho,hc,hi,hpre=>cases hc
   |7,ho,hc,hi,hpre=>cases hc
   |8,ho,hc,hi,hpre=>cases hc
   |9,ho,hc,hi,hpre=>cases hc
   |10,ho,hc,hi,hpre=>cases hc
   |n+11,ho,hc,hi,hpre=>cases ho
  ·intro h V' W' hV hS
   have e9:V' 9= .int .u64 (touchM x q.s).1:=(Option.some.inj (hV 9 (by decide))).symm
   have e10:V' 10= .int .i64 (touchM x q.s).2:=(Option.some.inj (hV 10 (by decide))).symm
   exact hK _ _ (Met.intro (hJ _ _ ⟨V' 9,V' 10,V' 6,V' 0,V' 1,V' 2,V' 3,V' 4,V' 5,V' 7,V' 8,⟨e9,e10,Lib.hid hS.1⟩,by kernel_rfl⟩))
 case rest=>
  obtain ⟨rfl,rfl,HF2⟩:=hcut
  have HP2:=Lib.hid (HP.out.no HF2.out)
  have HL2:=Lib.hid (And.intro (HL.out.1.trans HF2.out) (HL.out.2.fr HF2.out id))
  have HA:=Lib.hid (touch_lt x HP.out.ok)
  have HN:=Lib.hid (touch_n hx q.s)
  have HW:Hid (wasM q x=if x.kind=14 then (mtext q.W.m (touchM x q.s).1 (touchM x q.s).2).1 else []):=Lib.hid rfl
  have HSO:Hid (∀s W',stepM ds q.W x next q.s=(.ok s,W')→stepP ds q x next=(0,⟨W',s,if x.kind=14 then q.waits++ [((touchM x q.s).1,wasM q x)] else if drainsM x.kind then [] else q.waits⟩)):=fun s W' h=>stepP_ok h
  have HGX:=Lib.hid (stepM_ok HP.out.wm x (next:=next) HP.out.ok hn)
  clear HP HL HF2 HTC
  generalize touchM x q.s=tq at*
  obtain ⟨c0,c1,c2,c3,c4,c5,c6,c7,c8,c9,c10⟩:=XI.at HL2.out.2.cells
  have hp0:=HP2.out.world0
  obtain ⟨kb,hkb⟩:∃kb,(x.kind==(14:Int))=kb:=⟨_,rfl⟩
  go_upto_if 23 with fail
  go_cut [7] from 24 to 34 (fun s7 w5=>s7= .string (bA' (wasM q x))∧Hid (Fr No wc w5))
  case first=>
   cases kb
   rotate_left
   ·have h14:x.kind=14:=eq_of_beq hkb
    clear hkb
    have HTX:Hid (Calls prog 42 #[.pointer (some ⟨mb,0,none⟩), .int .u64 tq.1, .int .i64 tq.2] wc fun e w'=>e= .returned (.tuple #[.string (bA' (wasM q x)), .int .i64 (mtext q.W.m tq.1 tq.2).2])∧Fr No wc w'):=by
     rw [HW.out,if_pos h14]
     exact Lib.hid (HP2.out.wm.text tq.1 tq.2 HA.out HN.out)
    clear h14 HW
    go_wp2_with (first
     |(go_at_call 13;(with_reducible refine (HP2.out.wm.memory).mono ?_);rintro e3 w3 ⟨rfl,rfl⟩)
     |(go_at_call 42;(with_reducible refine HTX.out.mono ?_);rintro e4 w4 ⟨rfl,hf4⟩))
    go_meet
    exact ⟨rfl,Lib.hid hf4⟩
   ·have h14:¬x.kind=14:=by rw [beq_eq_false_iff_ne] at hkb;exact hkb
    clear hkb
    have HW2:Hid (wasM q x= []):=by rw [HW.out,if_neg h14];exact Lib.hid rfl
    clear h14 HW
    go_wp2_with fail
    go_meet
    exact ⟨by rw [HW2.out];rfl,Lib.hid (Fr.refl No wc)⟩
  case rest=>
   obtain ⟨rfl,HF5⟩:=hcut
   rename_i wb
   have HP5:=Lib.hid (HP2.out.no HF5.out)
   have HX5:=Lib.hid (HL2.out.2.fr HF5.out id)
   have HF6:=Lib.hid (HL2.out.1.trans HF5.out)
   have HNB:=Lib.hid HP5.out.wm.bound
   have HBX:Hid (N≤w.heap.size):=Lib.hid HH.out.wm.bound
   clear HP2 HL2 HF5 c0 c1 c2 c3 c4 c5 c6 c7 c8 c9 c10 hp0
   obtain ⟨E,hE⟩:∃E,stepM ds q.W x next q.s=E:=⟨_,rfl⟩
   have HOK:Hid (stOf E.1).ok:=by
    have:=stepM_ok HP5.out.wm x (next:=next) HP5.out.ok hn
    rw [hE] at this
    refine Lib.hid ?_
    cases hq:E.1 with
    |ok s=>exact this.1 s hq
    |error e=>exact ST.zero_ok
   go_upto_region 5 with fail
   go_cut [10,11] from 35 to 48 (fun s10 s11 wx=>s11= .int .i64 (erOf E.1)∧Hid (PwE w0 N bw mb ds pk RL bp P q E w.heap.size x wc s10 wx))
   case first=>
    rename_i J K' hJ hK
    refine wp_region_made [(4, .pointer (some ⟨w.heap.size,0,none⟩)),(0, .pointer (some ⟨bp,0,none⟩)),(2, .int .u64 next)]
     [some (.pointer (some ⟨bp,0,none⟩)),some (.pointer (some ⟨bp,0,none⟩)),some (.pointer (some ⟨bp,0,none⟩)),some (.pointer (some ⟨bw,0,none⟩)),some x.agg,some (.int .u64 next),some (.pointer (some ⟨bp,0,none⟩)),some (.pointer (some ⟨bp,0,none⟩)),some (.pointer (some ⟨bp,1,none⟩)),some (.agg q.s.cells.toArray),none,some (exV E.1),some (stOf E.1).agg,some (.int .i64 (erOf E.1)),none,none,some (.int .i64 (erOf E.1))]
     (fun h W=>PwS w0 N bw mb ds pk RL bp P q E w.heap.size x wc (h 10) (h 14) (h 15) W) (by kernel_rfl) (by kernel_rfl) (by kernel_rfl) (by kernel_rfl) ⟨rfl,rfl,rfl,trivial⟩ ⟨⟨q.W,HP5.out.no (Fr.refl No wc).drew,fun _=>rfl,fun hn=>absurd rfl hn⟩,(fun v hv=>by cases hv),fun _=>rfl,(fun v hv=>by cases hv),HX5.out.fr (Fr.refl No wc).drew id,(Fr.refl _ wc).drew⟩ ?_ ?_ ?_
    ·intro k o c ho hc h A' W' hS hpre hb
     obtain ⟨W2,hPW,_⟩:=hS.path
     have hw0:=hPW.world0
     match k,ho,hc,hpre with
     |0,ho,hc,hpre=>cases ho;cases hc;exact do_move (base_val hb 0 (by simp))
     |1,ho,hc,hpre=>cases ho;cases hc;exact do_nil (pre_val hpre 0 36 (by kernel_rfl) rfl rfl)
     |2,ho,hc,hpre=>
      cases ho;cases hc
      have e:=pre_val hpre 1 37 (by kernel_rfl) rfl rfl
      show (execOp A'.eval ⟨some 38, .fieldAddr 74 (.tmp 37) 0,_,_,_,_⟩).run prog W'=_
      simp only [execOp,e]
      first|kernel_rfl|simp [go_sem]
     |3,ho,hc,hpre=>cases ho;cases hc;exact do_load (pre_val hpre 2 38 (by kernel_rfl) rfl rfl) (by simp [go_sem,hw0])
     |4,ho,hc,hpre=>cases ho;cases hc;exact do_load (base_val hb 4 (by simp)) (run_loadAt_mid W' w.heap.size 0 _ _ _ hS.x.cells underlying48 rfl (XI.info x))
     |5,ho,hc,hpre=>cases ho;cases hc;exact do_move (base_val hb 2 (by simp))
     |6,ho,hc,hpre=>cases ho;cases hc;exact do_move (base_val hb 0 (by simp))
     |7,ho,hc,hpre=>cases ho;cases hc;exact do_nil (pre_val hpre 6 42 (by kernel_rfl) rfl rfl)
     |8,ho,hc,hpre=>
      cases ho;cases hc
      have e:=pre_val hpre 7 43 (by kernel_rfl) rfl rfl
      show (execOp A'.eval ⟨some 44, .fieldAddr 74 (.tmp 43) 1,_,_,_,_⟩).run prog W'=_
      simp only [execOp,e]
      first|kernel_rfl|simp [go_sem]
     |9,ho,hc,hpre=>cases ho;cases hc;exact do_load (pre_val hpre 8 44 (by kernel_rfl) rfl rfl) (run_loadAt_mid W' bp 1 _ _ _ hPW.cellsS underlying68 rfl (ST.info hPW.ok))
     |10,ho,hc,hpre=>cases hc
     |11,ho,hc,hpre=>
      cases ho;cases hc
      obtain ⟨v,h1,h2⟩:=pre_made1 hpre 10 46 (by kernel_rfl) rfl rfl
      exact do_move (h2.trans (hS.val v h1))
     |12,ho,hc,hpre=>cases ho;cases hc;exact do_extract ((pre_val hpre 11 35 (by kernel_rfl) rfl rfl).trans (exV_is E.1)) rfl
     |13,ho,hc,hpre=>cases ho;cases hc;exact do_extract ((pre_val hpre 11 35 (by kernel_rfl) rfl rfl).trans (exV_is E.1)) rfl
     |14,ho,hc,hpre=>cases hc
     |15,ho,hc,hpre=>cases hc
     |16,ho,hc,hpre=>cases ho;cases hc;exact do_assign (pre_val hpre 13 48 (by kernel_rfl) rfl rfl)
     |n+17,ho,hc,hpre=>cases hc
    ·intro k o ho hc h A' W' hdf hi hS hpre hb
     obtain ⟨W2,hPW,hn1,hn2⟩:=hS.path
     match k,ho,hc,hi,hpre with
     |10,ho,hc,hi,hpre=>
      cases ho
      obtain rfl:=hn1 hi
      have e1:A'.eval (.tmp 39)= .pointer (some ⟨bw,0,none⟩):=pre_val2 hpre 3 39 (by kernel_rfl) rfl rfl
      have e2:A'.eval (.tmp 40)=x.agg:=pre_val2 hpre 4 40 (by kernel_rfl) rfl rfl
      have e3:A'.eval (.tmp 41)= .int .u64 next:=pre_val2 hpre 5 41 (by kernel_rfl) rfl rfl
      have e4:A'.eval (.tmp 45)= .agg q.s.cells.toArray:=pre_val2 hpre 9 45 (by kernel_rfl) rfl rfl
      have ht:=hPW.wm.tabs
      have hmk:MemOk E.2.m:=by rw [←hE];exact MemOk.step hPW.mok ht.1 ht.2.2.1 ht.2.2.2 x next q.s
      refine do_call (f:=43) (args:= #[.pointer (some ⟨bw,0,none⟩),x.agg, .int .u64 next, .agg q.s.cells.toArray]) ?_ ((step_okk hPW.wm HM.out x next q.s hPW.ok hx hn HVK.out.1 HVK.out.2).mono fun e w' hh=> ?_)
      ·show (execOp A'.eval ⟨some 46, .call {callee:= .value (.func 43),args:= #[.tmp 39, .tmp 40, .tmp 41, .tmp 45],argTypes:=_},_,_,_,_⟩).run prog W'=_
       simp [execOp,resolve,invoke,e1,e2,e3,e4,go_sem]
       exact ⟨by rw [←Array.getD_eq_getD_getElem?];exact e1,by rw [←Array.getD_eq_getD_getElem?];exact e2,by rw [←Array.getD_eq_getD_getElem?];exact e3,by rw [←Array.getD_eq_getD_getElem?];exact e4⟩
      ·obtain ⟨he,hw,hf⟩:=hh
       have hw2:=hw.out
       have hf2:=hf.out
       rw [hE] at he hw2
       have nz:∀b,wc.heap.size≤b→¬Zof w0 N RL b:=fun b hb hz=>by have:=hz.2.2;have:=HNB.out;omega
       refine ⟨exV E.1,he,exV E.1,rfl,?_⟩
       show PwS w0 N bw mb ds pk RL bp P q E w.heap.size x wc (some (exV E.1)) (h 14) (h 15) w'
       refine ⟨⟨E.2,hPW.world hw2 hmk hf2,fun hc=>(by cases hc),fun _=>rfl⟩,fun v hv=>(Option.some.inj hv).symm,hS.dep,fun v hv=> ?_,hS.x.fr hf2 (fun hz=>by have:=hz.2.2;have:=HBX.out;omega),hS.fr.trans (hf2.mono fun _ _ h=> .inl h)⟩
       rcases hS.box v hv with ⟨b,e,hb2,hs,h15⟩|⟨b,e,hb2,hs,h15⟩
       ·exact .inl ⟨b,e,hb2,hs.fr hf2 (nz b hb2),h15⟩
       ·exact .inr ⟨b,e,hb2,hs.fr hf2 (nz b hb2),h15⟩
     |14,ho,hc,hi,hpre=>
      cases ho
      have fa:Fr No W' (W'.alloc (.cells ST.zero.cells.toArray 68)):=fr_alloc _ _
      refine do_alloc (z:=ST.zero.cells.toArray) (by kernel_rfl) ⟨.pointer (some ⟨W'.heap.size,0,none⟩),rfl,?_⟩
      show PwS w0 N bw mb ds pk RL bp P q E w.heap.size x wc (h 10) (some (.pointer (some ⟨W'.heap.size,0,none⟩))) (h 15) _
      exact ⟨⟨W2,hPW.no fa,hn1,hn2⟩,hS.val,fun hc=>(by cases hc),fun v hv=> .inl ⟨W'.heap.size,(Option.some.inj hv).symm,hS.fr.size,SAt.new W' ST.zero_ok _,hS.dep hi⟩,hS.x.fr fa id,hS.fr.trans fa.any⟩
     |15,ho,hc,hi,hpre=>
      cases ho
      obtain ⟨v,h1,h2⟩:=pre_made hpre 14 10 (by kernel_rfl) rfl rfl
      rcases hS.box v h1 with ⟨b,rfl,hb2,hs,h15⟩|⟨b,_,_,_,h15⟩
      ·have fb:Fr (fun k=>k=b) W' (W'.setCells b 0 (stOf E.1).cells):=(Fr.refl (fun k=>k=b) W').setCells (.inr rfl) 0 _
       have hth:∀u:Unit,W'.there b 0 (stOf E.1).cells.toArray.size:=fun _=>by rw [show (stOf E.1).cells.toArray.size=21 from by rw [List.size_toArray,ST.cells_len HOK.out]];exact hs.there
       have hin:∀u:Unit,(prog.info? 68).map (·.size)=some (stOf E.1).cells.toArray.size:=fun _=>by rw [List.size_toArray];exact ST.info HOK.out
       refine do_store h2 (pre_val2 hpre 12 47 (by kernel_rfl) rfl rfl) (hth ()) (hin ()) (all_oneCell_toArray cells_one) ⟨undef,rfl,?_⟩
       show PwS w0 N bw mb ds pk RL bp P q E w.heap.size x wc (h 10) (h 14) (some undef) (W'.setCells b 0 (stOf E.1).cells)
       have hN0:=HP5.out.wm.fr.size
       refine ⟨⟨W2,hPW.fr fb (fun k hk=>⟨⟨?_, .inl ?_⟩,?_⟩),hn1,hn2⟩,hS.val,fun hc=>absurd (hc.symm.trans h1) (by simp),fun v hv=> .inr ⟨b,(Option.some.inj (h1.symm.trans hv)).symm,hb2,hs.stored HOK.out,by simp⟩,hS.x.fr fb (show¬w.heap.size=b by have:w.heap.size<wc.heap.size:=World.block_lt_of_cell? wc _ (XI.at HX5.out.cells).1;omega),hS.fr.trans (fb.mono fun k _ hk=> .inr (by omega))⟩
       ·omega
       ·have:=HNB.out;omega
       ·intro hp
        have:=HP5.out.plt k hp
        omega
      ·exact absurd hi h15
     |0,ho,hc,hi,hpre=>cases hc
     |1,ho,hc,hi,hpre=>cases hc
     |2,ho,hc,hi,hpre=>cases hc
     |3,ho,hc,hi,hpre=>cases hc
     |4,ho,hc,hi,hpre=>cases hc
     |5,ho,hc,hi,hpre=>cases hc
     |6,ho,hc,hi,hpre=>cases hc
     |7,ho,hc,hi,hpre=>cases hc
     |8,ho,hc,hi,hpre=>cases hc
     |9,ho,hc,hi,hpre=>cases hc
     |11,ho,hc,hi,hpre=>cases hc
     |12,ho,hc,hi,hpre=>cases hc
     |13,ho,hc,hi,hpre=>cases hc
     |16,ho,hc,hi,hpre=>cases hc
     |n+17,ho,hc,hi,hpre=>cases ho
    ·intro h V' W' hV hS
     have e10:h 10=some (V' 10):=hV 10 (by decide)
     have e14:h 14=some (V' 14):=hV 14 (by decide)
     have e15:h 15=some (V' 15):=hV 15 (by decide)
     have e16:V' 16= .int .i64 (erOf E.1):=(Option.some.inj (hV 16 (by decide))).symm
     obtain ⟨W2,hPW,hn1,hn2⟩:=hS.path
     obtain rfl:=hn2 (by rw [e10];simp)
     have hE2:PwE w0 N bw mb ds pk RL bp P q E w.heap.size x wc (V' 14) W':=by
      rcases hS.box _ e14 with ⟨b,e,hb2,hs,h15⟩|⟨b,e,hb2,hs,h15⟩
      ·rw [e15] at h15;cases h15
      ·exact ⟨b,e,hb2,hs,hPW,hS.x,hS.fr⟩
     exact hK _ _ (Met.intro (hJ _ _ ⟨V' 14,V' 16,V' 11,V' 0,V' 1,V' 2,V' 3,V' 4,V' 5,V' 6,V' 7,V' 8,V' 9,V' 10,V' 12,V' 13,⟨e16,Lib.hid hE2⟩,by kernel_rfl⟩))
   case rest=>
    obtain ⟨rfl,HE⟩:=hcut
    obtain ⟨b,rfl,hb,hs,hpath,hxb,hfr⟩:=HE.out
    have HS:=Lib.hid hs
    have HPE:=Lib.hid hpath
    have HXB:=Lib.hid hxb
    have HFR:Hid (Fr (fun k=>P k∨Zof w0 N RL k∨w.heap.size≤k) w wc):=by
     have:=HF6.out.size
     exact Lib.hid (HF6.out.any.trans (hfr.mono fun k _ hk=>hk.elim (fun h=> .inr (.inl h)) fun h=> .inr (.inr (by omega))))
    have HNB2:Hid (bp<b∧N≤b):=Lib.hid ⟨by have:=HP5.out.lt;omega,by have:=HNB.out;omega⟩
    clear hb hs hpath hxb hfr HE HF6 HP5 HX5 HNB HOK
    obtain ⟨r,We⟩:=E
    cases r with
    |error e=>
     have he:=HGX.out.2 e (by rw [hE])
     have q1:(e !=(0:Int))=true:=by rw [bne_iff_ne];exact he
     have HSP:=Lib.hid (stepP_err hE)
     simp only [erOf]
     clear he hE HSO HGX
     go_wp2_with fail
     go_ret
     refine ⟨by rw [HSP.out];rfl,P,by rw [HSP.out];exact HPE,Lib.hid fun k hk=> .inl hk,Lib.hid (HFR.out.mono fun k hk h=>h.elim .inl fun h=>h.elim .inr fun h=>by omega)⟩
    |ok s=>
     have q1:((0:Int) !=0)=false:=rfl
     have HSP:=Lib.hid (HSO.out s We hE)
     have hso:s.ok:=HGX.out.1 s (by rw [hE])
     simp only [erOf]
     simp only [stOf] at HS
     clear hE HSO HGX
     go_upto_region 8 with fail
     go_upto_region 9 with (first
      |(refine HS.out.load rfl (.tmp 10) rfl rfl ?_)
      |(refine HPE.out.storeS hso rfl (.tmp 55) (.tmp 53) rfl rfl rfl ?_;intro W8 h8 hf8))
     have hbw:bp<w.heap.size:=HH.out.lt
     have HP8:=Lib.hid h8
     have HX8:=Lib.hid (HXB.out.fr hf8 (show¬w.heap.size=bp by omega))
     have HF8:Hid (Fr (fun k=>P k∨Zof w0 N RL k∨w.heap.size≤k) w W8):=Lib.hid (HFR.out.trans (hf8.mono fun k _ hk=> .inl (by rw [hk];exact HH.out.own)))
     clear h8 hf8 HPE HXB HFR HS
     obtain ⟨c0,c1,c2,c3,c4,c5,c6,c7,c8,c9,c10⟩:=XI.at HX8.out.cells
     cases kb
     ·have h14:¬x.kind=14:=by rw [beq_eq_false_iff_ne] at hkb;exact hkb
      have HD:Hid (∀W,Calls prog 44 #[.int .i64 x.kind] W fun e w'=>e= .returned (.bool (drainsM x.kind))∧W=w'):=fun W=>drains_any x.kind W
      have HSP2:Hid (stepP ds q x next=(0,⟨We,s,if drainsM x.kind=true then [] else q.waits⟩)):=by rw [HSP.out,if_neg h14];exact Lib.hid rfl
      clear HSP h14
      generalize drainsM x.kind=dk at*
      obtain ⟨wa,wn,hwc⟩:=HP8.out.waits
      have oo:=HP8.out.open_ 22
      cases dk
      ·go_wp2_with (go_at_call 44;(with_reducible refine (HD.out _).mono ?_);rintro e9 w9 ⟨rfl,rfl⟩)
       go_ret
       exact ⟨by rw [HSP2.out];rfl,P,by rw [HSP2.out];exact HP8,Lib.hid fun k hk=> .inl hk,Lib.hid (HF8.out.mono fun k hk h=>h.elim .inl fun h=>h.elim .inr fun h=>by omega)⟩
      ·have HSW:=Lib.hid (HP8.out.setW (Fr.refl No W8) (fun k hk=>hk.elim) (l:= []) (v:= .slice none 0 0) (World.ownsRow_nil W8 0 _ 2) (fun k hk=>by cases hk) (fun x hx=>by cases hx))
       have HFW:Hid (Fr (fun k=>P k∨Zof w0 N RL k∨w.heap.size≤k) w (W8.setCell ⟨bp,22,none⟩ (.slice none 0 0))):=Lib.hid (HF8.out.setCell (p:=⟨bp,22,none⟩) (.inr (.inl HH.out.own)) _)
       go_wp2_with (go_at_call 44;(with_reducible refine (HD.out _).mono ?_);rintro e9 w9 ⟨rfl,rfl⟩)
       go_ret
       exact ⟨by rw [HSP2.out];rfl,fun k=>k=bp∨(Value.slice none 0 0).ownBlock=some k,by rw [HSP2.out];exact HSW,Lib.hid (fun k hk=>hk.elim (fun h=> .inl (h ▸ HH.out.own)) fun h=>by cases h),Lib.hid (HFW.out.mono fun k hk h=>h.elim .inl fun h=>h.elim .inr fun h=>by omega)⟩
     ·have h14:x.kind=14:=eq_of_beq hkb
      have HSP2:Hid (stepP ds q x next=(0,⟨We,s,q.waits++ [(tq.1,wasM q x)]⟩)):=by rw [HSP.out,if_pos h14];exact Lib.hid rfl
      have HWL:=Lib.hid (was_len x HH.out.mok)
      clear HSP h14
      generalize wasM q x=wz at*
      obtain ⟨i0,hi0,hz0,hz1,hz2⟩:=info_parts Tryz.info_sto
      obtain ⟨wv,hcw,hrw,hkw⟩:=HP8.out.box
      obtain ⟨wa,wn,rfl⟩:=ownsRow_form hrw
      have hwc:W8.cell? ⟨bp,22,none⟩=some (.slice wa q.waits.length wn):=by have:=hcw 22 _ (pcells_w HP8.out.ok _);rwa [Nat.zero_add] at this
      have oo:=HP8.out.open_ 22
      have HOWN:Hid (∀W,Fr No W8 W→W.ownsRow 0 119 2 (.slice wa q.waits.length wn) q.waits.length (wflat q.waits)):=fun W hW=>ownsRow_fr hrw hW (fun _ _=>id)
      have HQ5:Hid (∀(W w5:World),Fr No W8 W→W.grownBy w5 (Value.slice wa q.waits.length wn).ownBlock→w5.cell? ⟨bp,22,none⟩=some (.slice wa q.waits.length wn)∧w5.frozen? ⟨bp,22,none⟩=false):=fun W w5 f hg=>by
       have hnb:¬OwnOf (.slice wa q.waits.length wn) bp:=fun hb=>(hkw bp hb).2 rfl
       have c3:=f.cell hwc id
       exact ⟨(grown_fr hg).cell c3 hnb,by rw [(grown_fr hg).frozen c3 hnb,f.frozen hwc id];exact oo⟩
      have HST:Hid (∀(W w7:World) (g cap:Nat),Fr No W8 W→W.heap.size=W8.heap.size+1→w7.ownsRow 0 119 2 (.slice (some ⟨g,0,none⟩) (q.waits.length+1) cap) (q.waits.length+1) (wflat q.waits++ [.int .u64 (tq.1:Int), .string (bA' wz)])→W.grownBy w7 (Value.slice wa q.waits.length wn).ownBlock→((Value.slice wa q.waits.length wn).ownBlock=some g∨g=W8.heap.size+1)→g<w7.heap.size→
        PathAt w0 N bw mb ds pk RL bp (fun k=>k=bp∨k=g) ⟨We,s,q.waits++ [(tq.1,wz)]⟩ (w7.setCell ⟨bp,22,none⟩ (.slice (some ⟨g,0,none⟩) (q.waits.length+1) cap))∧Fr (fun k=>P k∨Zof w0 N RL k∨w.heap.size≤k) w (w7.setCell ⟨bp,22,none⟩ (.slice (some ⟨g,0,none⟩) (q.waits.length+1) cap))∧∀k,(k=bp∨k=g)→P k∨w.heap.size≤k):=fun W w7 g cap f z h1 h2 h3 h4=>by
       have fg:Fr (OwnOf (.slice wa q.waits.length wn)) W8 w7:=f.any.trans (grown_fr h2)
       have hN8:=HP8.out.wm.bound
       have hw8:=HP8.out.wm.fr.size
       have hle:=HF8.out.size
       have hog:Out w0 N RL g∧g≠bp∧(P g∨w.heap.size≤g):=by
        rcases h3 with ho|rfl
        ·have:=hkw g ho
         exact ⟨HP8.out.apart g this.1,this.2, .inl this.1⟩
        ·exact ⟨⟨by omega, .inl (by omega)⟩,by omega, .inr (by omega)⟩
       have hS:=HP8.out.setW fg (fun k hk=>⟨HP8.out.apart k (hkw k hk).1,(hkw k hk).2⟩) (l:=q.waits++ [(tq.1,wz)]) (v:= .slice (some ⟨g,0,none⟩) (q.waits.length+1) cap)
        (by rw [List.length_append,show wflat (q.waits++ [(tq.1,wz)])=wflat q.waits++ [.int .u64 (tq.1:Int), .string (bA' wz)] by unfold wflat;rw [List.flatMap_append];rfl];exact h1)
        (fun k hk=>by
         obtain rfl:g=k:=Option.some.inj hk
         exact ⟨hog.1,hog.2.1,h4⟩)
        (fun y hy=>by
         rcases List.mem_append.1 hy with hy|hy
         ·exact HP8.out.lens y hy
         ·obtain rfl:=List.mem_singleton.1 hy
          exact ⟨HA.out,HWL.out⟩)
       refine ⟨?_,?_,?_⟩
       ·have e:(fun k=>k=bp∨(Value.slice (some ⟨g,0,none⟩) (q.waits.length+1) cap).ownBlock=some k)=fun k=>k=bp∨k=g:=by
         funext k
         exact propext ⟨fun h=>h.imp id fun h=>(Option.some.inj h).symm,fun h=>h.imp id fun h=>by rw [h];rfl⟩
        rw [←e];exact hS
       ·exact (HF8.out.trans (fg.mono fun k _ hk=> .inl (hkw k hk).1)).setCell (p:=⟨bp,22,none⟩) (.inr (.inl HH.out.own)) _
       ·rintro k (rfl|rfl)
        ·exact .inl HH.out.own
        ·exact hog.2.2
      clear hcw hrw hkw
      go_wp2_with (at_builtin;refine wpList_append_lies _ rfl (.tmp 64) (.tmp 68) 72 rfl 0 119 i0 _ 2 24 underlying72 hi0 hz0 hz1 hz2 rfl (by decide) (.slice wa q.waits.length wn) q.waits.length (wflat q.waits) (by rfl) (by exact HOWN.out _ ((Fr.refl No W8).alloc _)) ⟨W8.heap.size,0,none⟩ 1 1 [.int .u64 (tq.1:Int), .string (bA' wz)] (by rfl) (by rfl) (by exact World.news_of_block (cs:= #[.int .u64 (tq.1:Int), .string (bA' wz)]) (t:=119) (fr:=(0,0)) (heap_alloc_new _ _)) (by simp [Value.oneCell']) (by omega) (by unfold maxLen;omega) (by omega) (Nat.zero_le _) (W8.heap.size+1) (by simp) ?_;intro g3 cap3 w9 hown hgrow hat hlt2;have q5:=HQ5.out _ w9 ((Fr.refl No W8).alloc _) hgrow;have HF:=Lib.hid (HST.out _ w9 g3 cap3 ((Fr.refl No W8).alloc _) (by simp) hown hgrow hat hlt2);clear hown hgrow hat hlt2;obtain ⟨q5,q6⟩:=q5)
      go_ret
      exact ⟨by rw [HSP2.out];rfl,fun k=>k=bp∨k=g3,by rw [HSP2.out];exact Lib.hid HF.out.1,Lib.hid HF.out.2.2,Lib.hid (HF.out.2.1.mono fun k hk h=>h.elim .inl fun h=>h.elim .inr fun h=>by omega)⟩
end Go.Proofs.YtfmcmfiebehhiaaGreatDoor

