/- package machine: Step. (printed by mkstep.py) package machine, plain: Exec's answer is a state that may be. package machine: Step, the other kinds. (printed by mkstep.py) -/
import Derived.Test.YtfmcmfiebehhiaaGreatDoorCore25
set_option linter.all false
set_option linter.unusedVariables false
set_option linter.unusedSimpArgs false
set_option maxRecDepth 100000
set_option maxHeartbeats 2000000
namespace Go.Proofs.YtfmcmfiebehhiaaGreatDoor
open Go.Proofs.Tryz
open Go.RowKit Go.Maps
theorem fn_neq(n:Nat)(W:World):(binOp .neq 168 (.func (.func n) #[] #[]) .nilFunc).run prog W= .ok (.bool true) W:=by kernel_rfl
theorem fn_guard(n:Nat)(x y:Operand)(W:World):(eqGuard .neq 168 x y (.func (.func n) #[] #[]) .nilFunc).run prog W= .ok () W:=by kernel_rfl
theorem fn_nil(W):(binOp .neq 168 .nilFunc .nilFunc).run prog W= .ok (.bool false) W:=by kernel_rfl
theorem fn_guard_nil(x y W):(eqGuard .neq 168 x y .nilFunc .nilFunc).run prog W= .ok () W:=by kernel_rfl
theorem touch_look2{w:World}{bm n}(h:w.ownsMap prog 3 fnR bm n touchesD){k}(hw:(Lit.int .i64 k).wf=true):
  (Instr.lookup 169 (.map (some bm)) (.int .i64 k) false).run prog w= .ok (touchF k) w:=by
 obtain ⟨v,ps,hrun,hv⟩:=h.lookup (int_keyed underlying3) underlying169 (z:= .nilFunc) (by kernel_rfl) (zd:= .nil) (zp:= []) rfl (Go.Maps.keyOf_int_mk underlying3 hw)
 rw [hrun]
 congr 1
 unfold touchF
 by_cases h1:k=13
 ·subst h1;exact fnR_inv (by kernel_rfl) hv
 by_cases h2:k=14
 ·subst h2;exact fnR_inv (by kernel_rfl) hv
 by_cases h3:k=17
 ·subst h3;exact fnR_inv (by kernel_rfl) hv
 by_cases h4:k=18
 ·subst h4;exact fnR_inv (by kernel_rfl) hv
 by_cases h5:k=19
 ·subst h5;exact fnR_inv (by kernel_rfl) hv
 rw [if_neg h1,if_neg h2,if_neg h3,if_neg h4,if_neg h5]
 have e:touchesD.atKey (.int .i64 k) .nil= .nil:=by
  have s:∀x:Int,¬k=x→(Lit.int .i64 x).sameKey (.int .i64 k)=false:=fun x hx=>by simp [Lit.sameKey,Ne.symm hx]
  unfold touchesD DataW.atKey
  simp only [List.find?_cons,s 13 h1,s 14 h2,s 17 h3,s 18 h4,s 19 h5,List.find?_nil]
 rw [e] at hv
 exact fnR_nil hv
structure SwS(w0 wr:World)(N bw mb:Nat)(ds:List MapD)(p:Nat)(RL:RQ)(W:HW)(x:XI)(s t:ST)(w:World):Prop where
 wm:WM w0 N bw mb ds p RL W w
 x:XAt w wr.heap.size x
 st:SAt w (wr.heap.size+1) s
 res:SAt w (wr.heap.size+1+1) t
 fr:Fr (fun k=>Zof w0 N RL k∨wr.heap.size≤k) wr w
 lb:N≤wr.heap.size
theorem SwS.start{w0 wr:World}{N bw mb ds p RL W}(h:WM w0 N bw mb ds p RL W wr){x:XI}{s:ST}(hs:s.ok)(t1 t2 t3):SwS w0 wr N bw mb ds p RL W x s ST.zero (((wr.alloc (.cells x.cells.toArray t1)).alloc (.cells s.cells.toArray t2)).alloc (.cells ST.zero.cells.toArray t3)):=by
 have he:=ESt.start (w:=wr) (x:=x) hs t1 t2 t3
 exact ⟨h.to he.fr,he.x,he.st,he.res,he.fr.any,h.bound⟩
theorem SwS.no{w0 wr N bw mb ds p RL W x s t w w'}(h:SwS w0 wr N bw mb ds p RL W x s t w)(hf:Fr No w w'):SwS w0 wr N bw mb ds p RL W x s t w':=
 ⟨h.wm.to hf,hf.cells h.x id,h.st.fr hf id,h.res.fr hf id,h.fr.trans hf.any,h.lb⟩
theorem SwS.tou{w0 wr:World}{N bw mb ds p RL W W' x s t t' w w'}(h:SwS w0 wr N bw mb ds p RL W x s t w)(ht:TouTo w0 N bw mb ds p RL W' (wr.heap.size+1+1) t' w w'):SwS w0 wr N bw mb ds p RL W' x s t' w':=by
 have hlb:=h.lb
 have n1:∀k,k<wr.heap.size+2→N≤k→¬(Zof w0 N RL k∨k=wr.heap.size+1+1):=fun k h1 h2 hz=>by
  rcases hz with hz|hz
  ·have:=hz.2;omega
  ·omega
 exact ⟨ht.1.out,ht.2.2.out.cells h.x (n1 _ (by omega) (by omega)),h.st.fr ht.2.2.out (n1 _ (by omega) (by omega)),ht.2.1.out,h.fr.trans (ht.2.2.out.mono fun k _ hk=>hk.imp id fun e=>by omega),h.lb⟩
theorem SwS.box{w0 wr:World}{N bw mb ds p RL W x s t t' w w'}(h:SwS w0 wr N bw mb ds p RL W x s t w)(ht:SAt w' (wr.heap.size+1+1) t')(hf:Fr (fun k=>k=wr.heap.size+1+1) w w'):SwS w0 wr N bw mb ds p RL W x s t' w':=
 h.tou ⟨h.wm.beside hf (fun k hk=>by have:=h.lb;omega),ht,hf.mono fun _ _ hk=> .inr hk⟩
theorem SwS.setPC{w0 wr:World}{N bw mb ds p RL W x s t}{w:World}(h:SwS w0 wr N bw mb ds p RL W x s t w){v}(hv:v<18446744073709551616):SwS w0 wr N bw mb ds p RL W x s {t with pc:=v} (w.setCell ⟨wr.heap.size+1+1,20,none⟩ (.int .u64 v)):=
 h.box (h.res.setPC hv) ((Fr.refl (fun k=>k=wr.heap.size+1+1) w).setCell (p:=⟨wr.heap.size+1+1,20,none⟩) (.inr rfl) _)
theorem SwS.answer{w0 wr:World}{N bw mb ds p RL W x s u w}(h:SwS w0 wr N bw mb ds p RL W x s u w){t:ST}(ht:t.ok){ops rest}{op:Oper}{a:Act}{Q}(hgd:op.guard=none)(px py)(ho:op.op= .store 68 px py)(hx:a.eval px= .pointer (some ⟨wr.heap.size+1+1,0,none⟩))(hy:a.eval py= .agg t.cells.toArray)(k:∀W',Hid (SwS w0 wr N bw mb ds p RL W x s t W')→wpList prog ops Q rest (a.put op.dst undef) W'):wpList prog ops Q (op::rest) a w:=
 h.res.store ht hgd px py ho hx hy fun W' h1 h2=>k W' (h.box h1 h2)
theorem SwS.end_{w0 wr N bw mb ds p RL W x s t w}(h:SwS w0 wr N bw mb ds p RL W x s t w):Hid (WM w0 N bw mb ds p RL W w)∧Hid (Fr (Zof w0 N RL) wr w):=⟨h.wm,h.fr.mono fun k hk hz=>hz.resolve_right (by omega)⟩
def StepTo(w0 wr:World)(N bw mb:Nat)(ds:List MapD)(p:Nat)(RL:RQ)(q:Except Int ST×HW)(e:Ending)(w':World):Prop:=e= .returned (exV q.1)∧Hid (WM w0 N bw mb ds p RL q.2 w')∧Hid (Fr (Zof w0 N RL) wr w')
theorem step_13{w0 wr:World}{N bw mb ds p RL}{W:HW}(h:WM w0 N bw mb ds p RL W wr)(hm:MachAt w0)(a c z:Int)(wd sh:Bool)(d r:Nat)(dp rl im:Int)(next:Nat)(s:ST)(hs:s.ok)(hx:(XI.mk 13 a c z wd sh d r dp rl im).ok)(hn:next<18446744073709551616)(hd:d<16)(hr:r<16)(hv:validM ⟨13,a,c,z,wd,sh,d,r,dp,rl,im⟩=true):
  Calls prog 43 #[.pointer (some ⟨bw,0,none⟩),(XI.mk 13 a c z wd sh d r dp rl im).agg, .int .u64 next,s.agg] wr fun e w'=>StepTo w0 wr N bw mb ds p RL (stepM ds W ⟨13,a,c,z,wd,sh,d,r,dp,rl,im⟩ next s) e w':=by
 have hz:=i64_wf hx.size
 have hk:=i64_wf hx.kind
 simp only at hz hk
 have HV:Hid (∀W',Fr No w0 W'→Calls prog 69 #[(XI.mk 13 a c z wd sh d r dp rl im).agg] W' fun e w'=>e= .returned (.bool true)∧Fr No W' w'):=fun W' hW=>by rw [←hv];exact valid_any _ hz W' (hm.fr hW)
 have HE0:Hid (∀t1 t2 t3,_):=SwS.start h (x:=⟨13,a,c,z,wd,sh,d,r,dp,rl,im⟩) hs
 have HM:=Lib.hid hm
 have HN:=Lib.hid hn
 have HD:=Lib.hid hd
 have HR:=Lib.hid hr
 have hdp:=hx.disp
 have hrl:=hx.rel
 simp only at hdp hrl
 have ht0:(ST.mk s.r s.z s.s s.c s.o next).ok:=⟨hs.len,hs.lt,hn⟩
 have HTQ:Hid (touchM ⟨13,a,c,z,wd,sh,d,r,dp,rl,im⟩ s=(farM (s.reg r) dp,z)):=by
  unfold touchM
  rw [if_neg (by rw [hv];simp)]
  exact Lib.hid rfl
 have HT:Hid (∀W',Fr No w0 W'→Calls prog 36 #[(XI.mk 13 a c z wd sh d r dp rl im).agg,s.agg] W' fun e w'=>e= .returned (touV (farM (s.reg r) dp,z))∧Fr No W' w'):=fun W' hW=>by rw [←HTQ.out];exact touch_any _ s W' hx hs (hm.fr hW)
 have HF:Hid (∀W',WM w0 N bw mb ds p RL W W'→SAt W' (wr.heap.size+1+1) (ST.mk s.r s.z s.s s.c s.o next)→Calls prog 192 #[.pointer (some ⟨bw,0,none⟩),(XI.mk 13 a c z wd sh d r dp rl im).agg, .int .u64 (farM (s.reg r) dp,z).1, .int .i64 (farM (s.reg r) dp,z).2, .pointer (some ⟨wr.heap.size+1+1,0,none⟩)] W' fun e w'=>e= .returned (.int .i64 (mread W.m (farM (s.reg r) dp) z).2)∧TouTo w0 N bw mb ds p RL W (wr.heap.size+1+1) ((ST.mk s.r s.z s.s s.c s.o next).set d (mread W.m (farM (s.reg r) dp) z).1) W' w'):=fun W' hW hS=>touches1_any hW 13 a c z wd sh d r dp rl im _ _ _ _ hS (by have:=h.bound;omega) (by first|exact farM_lt _ _|exact hs.reg _) hd hr
 have HQ:Hid (stepM ds W ⟨13,a,c,z,wd,sh,d,r,dp,rl,im⟩ next s=(exE (mread W.m (farM (s.reg r) dp) z).2 ((ST.mk s.r s.z s.s s.c s.o next).set d (mread W.m (farM (s.reg r) dp) z).1),W)):=by
  unfold stepM
  rw [if_neg (by rw [hv];simp)]
  dsimp only
  rw [HTQ.out]
  exact Lib.hid rfl
 rw [HQ.out]
 clear HQ HTQ ht0 hm h hn hd hr hx hv
 generalize (mread W.m (farM (s.reg r) dp) z).2=E at*
 generalize hT2:((ST.mk s.r s.z s.s s.c s.o next).set d (mread W.m (farM (s.reg r) dp) z).1)=T2 at*
 clear hT2
 simp only [touV] at HT HF
 generalize (farM (s.reg r) dp,z).1=A at*
 simp only [XI.agg,ST.agg] at*
 go_enter func43,ntmps43
 go_upto_region 1 with fail
 refine wp_world (fun W1=>Hid (SwS w0 wr N bw mb ds p RL W ⟨13,a,c,z,wd,sh,d,r,dp,rl,im⟩ s ST.zero W1)) (by exact HE0.out _ _ _) ?_
 intro W1 HL
 clear HE0
 obtain ⟨c0,c1,c2,c3,c4,c5,c6,c7,c8,c9,c10⟩:=XI.at HL.out.x
 go_upto_region 5 with (first
  |(go_at_call 13;(with_reducible refine (HL.out.wm.memory).mono ?_);rintro e w1 ⟨rfl,rfl⟩)
  |(go_at_call 69;(with_reducible refine (HV.out _ HL.out.wm.fr).mono ?_);rintro e w2 ⟨rfl,hf2⟩;replace HL:=Lib.hid (HL.out.no hf2);clear hf2)
)
 clear c0 c1 c2 c3 c4 c5 c6 c7 c8 c9 c10
 go_upto_region 6 with (first
  |(refine HL.out.st.load rfl (.tmp 7) rfl rfl ?_)
  |(refine HL.out.answer HL.out.st.ok rfl (.tmp 8) (.tmp 23) rfl rfl rfl ?_;intro W9 HL)
)
 have oo:=HL.out.res.open_
 have c20:=HL.out.res.at.2.2.2.2
 go_upto_region 7 with fail
 replace HL:=Lib.hid (HL.out.setPC HN.out)
 obtain ⟨W2,hW2⟩:∃W2,W2=W9.setCell ⟨wr.heap.size+1+1,20,none⟩ (.int .u64 next):=⟨_,rfl⟩
 rw [←hW2] at HL ⊢
 clear hW2 oo c20
 obtain ⟨c0,c1,c2,c3,c4,c5,c6,c7,c8,c9,c10⟩:=XI.at HL.out.x
 obtain ⟨bm,nm,hbm,hown⟩:=(HM.out.fr HL.out.wm.fr).touches
 have hlk:=touch_look2 hown hk
 rw [show touchF 13= .func (.func 192) #[] #[] from rfl] at hlk
 clear hown
 go_upto_region 9 with fail
 clear hlk hbm hk hz c0 c1 c2 c3 c4 c5 c6 c7 c8 c9 c10
 obtain ⟨c0,c1,c2,c3,c4,c5,c6,c7,c8,c9,c10⟩:=XI.at HL.out.x
 have fq:=fn_neq 192
 have fg:=fn_guard 192
 go_upto_region 18 with (first
  |(refine HL.out.st.load rfl (.tmp 7) rfl rfl ?_)
  |(go_at_call 36;(with_reducible refine (HT.out _ HL.out.wm.fr).mono ?_);rintro e w2 ⟨rfl,hf2⟩;replace HL:=Lib.hid (HL.out.no hf2);clear hf2;obtain ⟨c0,c1,c2,c3,c4,c5,c6,c7,c8,c9,c10⟩:=XI.at HL.out.x)
  |(go_at_call 192;(with_reducible refine (HF.out _ HL.out.wm HL.out.res).mono ?_);rintro e w3 ⟨rfl,ht3⟩;replace HL:=Lib.hid (HL.out.tou ht3);clear ht3)
)
 rcases Int.decEq E 0 with hE|hE
 ·have hE1:(E !=0)=true:=by rw [bne_iff_ne];exact hE
  go_wp2_with (first
  |(refine HL.out.answer ST.zero_ok rfl (.tmp 8) (.tmp 85) rfl rfl rfl ?_;intro W9 HL)
)
  exact bodyPost_ret (results_st2 results43 _ _ _ ST.zero HL.out.res rfl) rfl ⟨by rw [show exE E T2= .error E from if_neg hE];rfl,HL.out.end_⟩
 ·have hE1:(E !=0)=false:=by rw [hE];rfl
  go_wp2_with (first
  |(refine HL.out.res.load rfl (.tmp 8) rfl rfl ?_)
  |(refine HL.out.answer HL.out.res.ok rfl (.tmp 8) (.tmp 87) rfl rfl rfl ?_;intro W9 HL)
)
  exact bodyPost_ret (results_st2 results43 _ _ _ T2 HL.out.res rfl) rfl ⟨by rw [show exE E T2= .ok T2 from if_pos hE];rfl,HL.out.end_⟩
theorem step_14{w0 wr:World}{N bw mb ds p RL}{W:HW}(h:WM w0 N bw mb ds p RL W wr)(hm:MachAt w0)(a c z:Int)(wd sh:Bool)(d r:Nat)(dp rl im:Int)(next:Nat)(s:ST)(hs:s.ok)(hx:(XI.mk 14 a c z wd sh d r dp rl im).ok)(hn:next<18446744073709551616)(hd:d<16)(hr:r<16)(hv:validM ⟨14,a,c,z,wd,sh,d,r,dp,rl,im⟩=true):
  Calls prog 43 #[.pointer (some ⟨bw,0,none⟩),(XI.mk 14 a c z wd sh d r dp rl im).agg, .int .u64 next,s.agg] wr fun e w'=>StepTo w0 wr N bw mb ds p RL (stepM ds W ⟨14,a,c,z,wd,sh,d,r,dp,rl,im⟩ next s) e w':=by
 have hz:=i64_wf hx.size
 have hk:=i64_wf hx.kind
 simp only at hz hk
 have HV:Hid (∀W',Fr No w0 W'→Calls prog 69 #[(XI.mk 14 a c z wd sh d r dp rl im).agg] W' fun e w'=>e= .returned (.bool true)∧Fr No W' w'):=fun W' hW=>by rw [←hv];exact valid_any _ hz W' (hm.fr hW)
 have HE0:Hid (∀t1 t2 t3,_):=SwS.start h (x:=⟨14,a,c,z,wd,sh,d,r,dp,rl,im⟩) hs
 have HM:=Lib.hid hm
 have HN:=Lib.hid hn
 have HD:=Lib.hid hd
 have HR:=Lib.hid hr
 have hdp:=hx.disp
 have hrl:=hx.rel
 simp only at hdp hrl
 have ht0:(ST.mk s.r s.z s.s s.c s.o next).ok:=⟨hs.len,hs.lt,hn⟩
 have HTQ:Hid (touchM ⟨14,a,c,z,wd,sh,d,r,dp,rl,im⟩ s=(farM (s.reg d) dp,z)):=by
  unfold touchM
  rw [if_neg (by rw [hv];simp)]
  exact Lib.hid rfl
 have HT:Hid (∀W',Fr No w0 W'→Calls prog 36 #[(XI.mk 14 a c z wd sh d r dp rl im).agg,s.agg] W' fun e w'=>e= .returned (touV (farM (s.reg d) dp,z))∧Fr No W' w'):=fun W' hW=>by rw [←HTQ.out];exact touch_any _ s W' hx hs (hm.fr hW)
 have HF:Hid (∀W',WM w0 N bw mb ds p RL W W'→SAt W' (wr.heap.size+1+1) (ST.mk s.r s.z s.s s.c s.o next)→Calls prog 194 #[.pointer (some ⟨bw,0,none⟩),(XI.mk 14 a c z wd sh d r dp rl im).agg, .int .u64 (farM (s.reg d) dp,z).1, .int .i64 (farM (s.reg d) dp,z).2, .pointer (some ⟨wr.heap.size+1+1,0,none⟩)] W' fun e w'=>e= .returned (.int .i64 (mwrite W.m (farM (s.reg d) dp) z (s.reg r)).2)∧TouTo w0 N bw mb ds p RL {W with m:=(mwrite W.m (farM (s.reg d) dp) z (s.reg r)).1} (wr.heap.size+1+1) (ST.mk s.r s.z s.s s.c s.o next) W' w'):=fun W' hW hS=>touches2_any hW 14 a c z wd sh d r dp rl im _ _ _ _ hS (by have:=h.bound;omega) (by first|exact farM_lt _ _|exact hs.reg _) hd hr
 have HQ:Hid (stepM ds W ⟨14,a,c,z,wd,sh,d,r,dp,rl,im⟩ next s=(exE (mwrite W.m (farM (s.reg d) dp) z (s.reg r)).2 (ST.mk s.r s.z s.s s.c s.o next),{W with m:=(mwrite W.m (farM (s.reg d) dp) z (s.reg r)).1})):=by
  unfold stepM
  rw [if_neg (by rw [hv];simp)]
  dsimp only
  rw [HTQ.out]
  exact Lib.hid rfl
 rw [HQ.out]
 clear HQ HTQ ht0 hm h hn hd hr hx hv
 generalize (mwrite W.m (farM (s.reg d) dp) z (s.reg r)).2=E at*
 generalize {W with m:=(mwrite W.m (farM (s.reg d) dp) z (s.reg r)).1}=V2 at*
 simp only [touV] at HT HF
 generalize (farM (s.reg d) dp,z).1=A at*
 simp only [XI.agg,ST.agg] at*
 go_enter func43,ntmps43
 go_upto_region 1 with fail
 refine wp_world (fun W1=>Hid (SwS w0 wr N bw mb ds p RL W ⟨14,a,c,z,wd,sh,d,r,dp,rl,im⟩ s ST.zero W1)) (by exact HE0.out _ _ _) ?_
 intro W1 HL
 clear HE0
 obtain ⟨c0,c1,c2,c3,c4,c5,c6,c7,c8,c9,c10⟩:=XI.at HL.out.x
 go_upto_region 5 with (first
  |(go_at_call 13;(with_reducible refine (HL.out.wm.memory).mono ?_);rintro e w1 ⟨rfl,rfl⟩)
  |(go_at_call 69;(with_reducible refine (HV.out _ HL.out.wm.fr).mono ?_);rintro e w2 ⟨rfl,hf2⟩;replace HL:=Lib.hid (HL.out.no hf2);clear hf2)
)
 clear c0 c1 c2 c3 c4 c5 c6 c7 c8 c9 c10
 go_upto_region 6 with (first
  |(refine HL.out.st.load rfl (.tmp 7) rfl rfl ?_)
  |(refine HL.out.answer HL.out.st.ok rfl (.tmp 8) (.tmp 23) rfl rfl rfl ?_;intro W9 HL)
)
 have oo:=HL.out.res.open_
 have c20:=HL.out.res.at.2.2.2.2
 go_upto_region 7 with fail
 replace HL:=Lib.hid (HL.out.setPC HN.out)
 obtain ⟨W2,hW2⟩:∃W2,W2=W9.setCell ⟨wr.heap.size+1+1,20,none⟩ (.int .u64 next):=⟨_,rfl⟩
 rw [←hW2] at HL ⊢
 clear hW2 oo c20
 obtain ⟨c0,c1,c2,c3,c4,c5,c6,c7,c8,c9,c10⟩:=XI.at HL.out.x
 obtain ⟨bm,nm,hbm,hown⟩:=(HM.out.fr HL.out.wm.fr).touches
 have hlk:=touch_look2 hown hk
 rw [show touchF 14= .func (.func 194) #[] #[] from rfl] at hlk
 clear hown
 go_upto_region 9 with fail
 clear hlk hbm hk hz c0 c1 c2 c3 c4 c5 c6 c7 c8 c9 c10
 obtain ⟨c0,c1,c2,c3,c4,c5,c6,c7,c8,c9,c10⟩:=XI.at HL.out.x
 have fq:=fn_neq 194
 have fg:=fn_guard 194
 go_upto_region 18 with (first
  |(refine HL.out.st.load rfl (.tmp 7) rfl rfl ?_)
  |(go_at_call 36;(with_reducible refine (HT.out _ HL.out.wm.fr).mono ?_);rintro e w2 ⟨rfl,hf2⟩;replace HL:=Lib.hid (HL.out.no hf2);clear hf2;obtain ⟨c0,c1,c2,c3,c4,c5,c6,c7,c8,c9,c10⟩:=XI.at HL.out.x)
  |(go_at_call 194;(with_reducible refine (HF.out _ HL.out.wm HL.out.res).mono ?_);rintro e w3 ⟨rfl,ht3⟩;replace HL:=Lib.hid (HL.out.tou ht3);clear ht3)
)
 rcases Int.decEq E 0 with hE|hE
 ·have hE1:(E !=0)=true:=by rw [bne_iff_ne];exact hE
  go_wp2_with (first
  |(refine HL.out.answer ST.zero_ok rfl (.tmp 8) (.tmp 85) rfl rfl rfl ?_;intro W9 HL)
)
  exact bodyPost_ret (results_st2 results43 _ _ _ ST.zero HL.out.res rfl) rfl ⟨by rw [show exE E (ST.mk s.r s.z s.s s.c s.o next)= .error E from if_neg hE];rfl,HL.out.end_⟩
 ·have hE1:(E !=0)=false:=by rw [hE];rfl
  go_wp2_with (first
  |(refine HL.out.res.load rfl (.tmp 8) rfl rfl ?_)
  |(refine HL.out.answer HL.out.res.ok rfl (.tmp 8) (.tmp 87) rfl rfl rfl ?_;intro W9 HL)
)
  exact bodyPost_ret (results_st2 results43 _ _ _ (ST.mk s.r s.z s.s s.c s.o next) HL.out.res rfl) rfl ⟨by rw [show exE E (ST.mk s.r s.z s.s s.c s.o next)= .ok (ST.mk s.r s.z s.s s.c s.o next) from if_pos hE];rfl,HL.out.end_⟩
theorem step_19{w0 wr:World}{N bw mb ds p RL}{W:HW}(h:WM w0 N bw mb ds p RL W wr)(hm:MachAt w0)(a c z:Int)(wd sh:Bool)(d r:Nat)(dp rl im:Int)(next:Nat)(s:ST)(hs:s.ok)(hx:(XI.mk 19 a c z wd sh d r dp rl im).ok)(hn:next<18446744073709551616)(hd:d<16)(hr:r<16)(hv:validM ⟨19,a,c,z,wd,sh,d,r,dp,rl,im⟩=true):
  Calls prog 43 #[.pointer (some ⟨bw,0,none⟩),(XI.mk 19 a c z wd sh d r dp rl im).agg, .int .u64 next,s.agg] wr fun e w'=>StepTo w0 wr N bw mb ds p RL (stepM ds W ⟨19,a,c,z,wd,sh,d,r,dp,rl,im⟩ next s) e w':=by
 have hz:=i64_wf hx.size
 have hk:=i64_wf hx.kind
 simp only at hz hk
 have HV:Hid (∀W',Fr No w0 W'→Calls prog 69 #[(XI.mk 19 a c z wd sh d r dp rl im).agg] W' fun e w'=>e= .returned (.bool true)∧Fr No W' w'):=fun W' hW=>by rw [←hv];exact valid_any _ hz W' (hm.fr hW)
 have HE0:Hid (∀t1 t2 t3,_):=SwS.start h (x:=⟨19,a,c,z,wd,sh,d,r,dp,rl,im⟩) hs
 have HM:=Lib.hid hm
 have HN:=Lib.hid hn
 have HD:=Lib.hid hd
 have HR:=Lib.hid hr
 have hdp:=hx.disp
 have hrl:=hx.rel
 simp only at hdp hrl
 have ht0:(ST.mk s.r s.z s.s s.c s.o next).ok:=⟨hs.len,hs.lt,hn⟩
 have HTQ:Hid (touchM ⟨19,a,c,z,wd,sh,d,r,dp,rl,im⟩ s=(s.reg 4,8)):=by
  unfold touchM
  rw [if_neg (by rw [hv];simp)]
  exact Lib.hid rfl
 have HT:Hid (∀W',Fr No w0 W'→Calls prog 36 #[(XI.mk 19 a c z wd sh d r dp rl im).agg,s.agg] W' fun e w'=>e= .returned (touV (s.reg 4,8))∧Fr No W' w'):=fun W' hW=>by rw [←HTQ.out];exact touch_any _ s W' hx hs (hm.fr hW)
 have HF:Hid (∀W',WM w0 N bw mb ds p RL W W'→SAt W' (wr.heap.size+1+1) (ST.mk s.r s.z s.s s.c s.o next)→Calls prog 198 #[.pointer (some ⟨bw,0,none⟩),(XI.mk 19 a c z wd sh d r dp rl im).agg, .int .u64 (s.reg 4,8).1, .int .i64 (s.reg 4,8).2, .pointer (some ⟨wr.heap.size+1+1,0,none⟩)] W' fun e w'=>e= .returned (.int .i64 (mread W.m (s.reg 4) 8).2)∧TouTo w0 N bw mb ds p RL W (wr.heap.size+1+1) {((ST.mk s.r s.z s.s s.c s.o next).set 4 (farM (s.reg 4) 8)) with pc:=(mread W.m (s.reg 4) 8).1} W' w'):=fun W' hW hS=>touches5_any hW 19 a c z wd sh d r dp rl im _ _ _ _ hS (by have:=h.bound;omega) (by first|exact farM_lt _ _|exact hs.reg _) hd hr
 have HQ:Hid (stepM ds W ⟨19,a,c,z,wd,sh,d,r,dp,rl,im⟩ next s=(exE (mread W.m (s.reg 4) 8).2 {((ST.mk s.r s.z s.s s.c s.o next).set 4 (farM (s.reg 4) 8)) with pc:=(mread W.m (s.reg 4) 8).1},W)):=by
  unfold stepM
  rw [if_neg (by rw [hv];simp)]
  dsimp only
  rw [HTQ.out]
  exact Lib.hid rfl
 rw [HQ.out]
 clear HQ HTQ ht0 hm h hn hd hr hx hv
 generalize (mread W.m (s.reg 4) 8).2=E at*
 generalize hT2:{((ST.mk s.r s.z s.s s.c s.o next).set 4 (farM (s.reg 4) 8)) with pc:=(mread W.m (s.reg 4) 8).1}=T2 at*
 clear hT2
 simp only [touV] at HT HF
 generalize (s.reg 4,8).1=A at*
 simp only [XI.agg,ST.agg] at*
 go_enter func43,ntmps43
 go_upto_region 1 with fail
 refine wp_world (fun W1=>Hid (SwS w0 wr N bw mb ds p RL W ⟨19,a,c,z,wd,sh,d,r,dp,rl,im⟩ s ST.zero W1)) (by exact HE0.out _ _ _) ?_
 intro W1 HL
 clear HE0
 obtain ⟨c0,c1,c2,c3,c4,c5,c6,c7,c8,c9,c10⟩:=XI.at HL.out.x
 go_upto_region 5 with (first
  |(go_at_call 13;(with_reducible refine (HL.out.wm.memory).mono ?_);rintro e w1 ⟨rfl,rfl⟩)
  |(go_at_call 69;(with_reducible refine (HV.out _ HL.out.wm.fr).mono ?_);rintro e w2 ⟨rfl,hf2⟩;replace HL:=Lib.hid (HL.out.no hf2);clear hf2)
)
 clear c0 c1 c2 c3 c4 c5 c6 c7 c8 c9 c10
 go_upto_region 6 with (first
  |(refine HL.out.st.load rfl (.tmp 7) rfl rfl ?_)
  |(refine HL.out.answer HL.out.st.ok rfl (.tmp 8) (.tmp 23) rfl rfl rfl ?_;intro W9 HL)
)
 have oo:=HL.out.res.open_
 have c20:=HL.out.res.at.2.2.2.2
 go_upto_region 7 with fail
 replace HL:=Lib.hid (HL.out.setPC HN.out)
 obtain ⟨W2,hW2⟩:∃W2,W2=W9.setCell ⟨wr.heap.size+1+1,20,none⟩ (.int .u64 next):=⟨_,rfl⟩
 rw [←hW2] at HL ⊢
 clear hW2 oo c20
 obtain ⟨c0,c1,c2,c3,c4,c5,c6,c7,c8,c9,c10⟩:=XI.at HL.out.x
 obtain ⟨bm,nm,hbm,hown⟩:=(HM.out.fr HL.out.wm.fr).touches
 have hlk:=touch_look2 hown hk
 rw [show touchF 19= .func (.func 198) #[] #[] from rfl] at hlk
 clear hown
 go_upto_region 9 with fail
 clear hlk hbm hk hz c0 c1 c2 c3 c4 c5 c6 c7 c8 c9 c10
 obtain ⟨c0,c1,c2,c3,c4,c5,c6,c7,c8,c9,c10⟩:=XI.at HL.out.x
 have fq:=fn_neq 198
 have fg:=fn_guard 198
 go_upto_region 18 with (first
  |(refine HL.out.st.load rfl (.tmp 7) rfl rfl ?_)
  |(go_at_call 36;(with_reducible refine (HT.out _ HL.out.wm.fr).mono ?_);rintro e w2 ⟨rfl,hf2⟩;replace HL:=Lib.hid (HL.out.no hf2);clear hf2;obtain ⟨c0,c1,c2,c3,c4,c5,c6,c7,c8,c9,c10⟩:=XI.at HL.out.x)
  |(go_at_call 198;(with_reducible refine (HF.out _ HL.out.wm HL.out.res).mono ?_);rintro e w3 ⟨rfl,ht3⟩;replace HL:=Lib.hid (HL.out.tou ht3);clear ht3)
)
 rcases Int.decEq E 0 with hE|hE
 ·have hE1:(E !=0)=true:=by rw [bne_iff_ne];exact hE
  go_wp2_with (first
  |(refine HL.out.answer ST.zero_ok rfl (.tmp 8) (.tmp 85) rfl rfl rfl ?_;intro W9 HL)
)
  exact bodyPost_ret (results_st2 results43 _ _ _ ST.zero HL.out.res rfl) rfl ⟨by rw [show exE E T2= .error E from if_neg hE];rfl,HL.out.end_⟩
 ·have hE1:(E !=0)=false:=by rw [hE];rfl
  go_wp2_with (first
  |(refine HL.out.res.load rfl (.tmp 8) rfl rfl ?_)
  |(refine HL.out.answer HL.out.res.ok rfl (.tmp 8) (.tmp 87) rfl rfl rfl ?_;intro W9 HL)
)
  exact bodyPost_ret (results_st2 results43 _ _ _ T2 HL.out.res rfl) rfl ⟨by rw [show exE E T2= .ok T2 from if_pos hE];rfl,HL.out.end_⟩
end Go.Proofs.YtfmcmfiebehhiaaGreatDoor
namespace Go.Proofs.YtfmcmfiebehhiaaGreatDoor
open Go.Proofs.Tryz
open Go.RowKit
theorem arithM_ok{s:ST}(hs:s.ok)(wide alu a b):(arithM s wide alu a b).1.ok:=⟨hs.len,hs.lt,hs.pc⟩
def GoodX(q:Except Int ST):Prop:=(∀t,q= .ok t→t.ok)∧∀e,q= .error e→e≠0
theorem GoodX.ok_{u:ST}(hu:u.ok):GoodX (.ok u):=⟨fun t ht=>by cases ht;exact hu,fun e he=>by cases he⟩
theorem GoodX.err{g}(hg:g≠0):GoodX (.error g):=⟨fun t ht=>(by cases ht),fun e he=>by cases he;exact hg⟩
theorem GoodX.ite{p}[Decidable p]{a b:Except Int ST}(ha:GoodX a)(hb:GoodX b):GoodX (if p then a else b):=by split<;>assumption
theorem okIte{p}[Decidable p]{a b:ST}(ha:a.ok)(hb:b.ok):(if p then a else b).ok:=by split<;>assumption
theorem execM_ok(x:XI){s:ST}(hs:s.ok):GoodX (execM x s):=by
 have mov:∀{t:ST},t.ok→∀op a v,(t.set x.dst.toNat (doM op x.wide a v)).ok:=fun ht op a v=>ht.set _ (doM_u64 _ _ _ _)
 unfold execM
 refine GoodX.ite (GoodX.err (by decide)) ?_
 dsimp only
 refine GoodX.ite (GoodX.ok_ (mov hs _ _ _)) ?_
 refine GoodX.ite (GoodX.ok_ (mov hs _ _ _)) ?_
 refine GoodX.ite (GoodX.ok_ (okIte (arithM_ok hs _ _ _ _) (mov (arithM_ok hs _ _ _ _) _ _ _))) ?_
 refine GoodX.ite (GoodX.ok_ (arithM_ok hs _ _ _ _)) ?_
 refine GoodX.ite (GoodX.ok_ (mov (arithM_ok hs _ _ _ _) _ _ _)) ?_
 refine GoodX.ite (GoodX.ok_ (mov hs _ _ _)) ?_
 refine GoodX.ite (GoodX.ok_ ((hs.set _ (times_lt _ _ _).1).set _ (times_lt _ _ _).2)) ?_
 refine GoodX.ite ?_ ?_
 ·cases hp:partM x.wide (s.reg 2) (s.reg 0) (s.reg x.dst.toNat) with
  |none=>exact GoodX.err (by decide)
  |some q=>
   have h:=part_lt x.wide (u:=q.1) (v:=q.2) hp
   exact GoodX.ok_ ((hs.set _ h.1).set _ h.2)
 refine GoodX.ite (GoodX.ok_ (mov hs _ _ _)) ?_
 refine GoodX.ite (GoodX.ok_ (mov hs _ _ _)) ?_
 exact GoodX.ite (GoodX.ok_ hs) (GoodX.err (by decide))
theorem SAt.loadG{w b}{s:ST}(hS:SAt w b s){ops rest}{op:Oper}{a:Act}{Q}(x)(ho:op.op= .load 68 x)(hx:a.eval x= .pointer (some ⟨b,0,none⟩))(hw:Region.wanted op (yielded ops a.tmps)=true)(h:wpList prog ops Q rest (a.put op.dst (.agg s.cells.toArray)) w):wpList prog ops Q (op::rest) a w:=by
 show if Region.wanted op (yielded ops a.tmps) then _ else _
 rw [if_pos hw]
 exact .inl (wp_load_mid 68 x ho b 0 hx s.cells _ hS.cells underlying68 rfl (ST.info hS.ok) h)
theorem step_15{w0 wr:World}{N bw mb ds p RL W}(h:WM w0 N bw mb ds p RL W wr)(hm:MachAt w0)(a c z:Int)(wd sh:Bool)(d r:Nat)(dp rl im:Int)(next:Nat)(s:ST)(hs:s.ok)(hx:(XI.mk 15 a c z wd sh d r dp rl im).ok)(hn:next<18446744073709551616)(hd:d<16)(hr:r<16)(hv:validM ⟨15,a,c,z,wd,sh,d,r,dp,rl,im⟩=true):
  Calls prog 43 #[.pointer (some ⟨bw,0,none⟩),(XI.mk 15 a c z wd sh d r dp rl im).agg, .int .u64 next,s.agg] wr fun e w'=>StepTo w0 wr N bw mb ds p RL (stepM ds W ⟨15,a,c,z,wd,sh,d,r,dp,rl,im⟩ next s) e w':=by
 have hz:=i64_wf hx.size
 have hk:=i64_wf hx.kind
 simp only at hz hk
 have HV:Hid (∀W',Fr No w0 W'→Calls prog 69 #[(XI.mk 15 a c z wd sh d r dp rl im).agg] W' fun e w'=>e= .returned (.bool true)∧Fr No W' w'):=fun W' hW=>by rw [←hv];exact valid_any _ hz W' (hm.fr hW)
 have HE0:Hid (∀t1 t2 t3,_):=SwS.start h (x:=⟨15,a,c,z,wd,sh,d,r,dp,rl,im⟩) hs
 have HM:=Lib.hid hm
 have HN:=Lib.hid hn
 have HD:=Lib.hid hd
 have HR:=Lib.hid hr
 have hdp:=hx.disp
 have hrl:=hx.rel
 simp only at hdp hrl
 have ht0:(ST.mk s.r s.z s.s s.c s.o next).ok:=⟨hs.len,hs.lt,hn⟩
 have HFA:Hid (∀W',Calls prog 70 #[.int .u64 next, .int .i32 rl] W' fun e w'=>e= .returned (.int .u64 (farM next rl))∧W'=w'):=fun W'=>far_any next rl W' hrl
 have HQ:Hid (stepM ds W ⟨15,a,c,z,wd,sh,d,r,dp,rl,im⟩ next s=(.ok {(ST.mk s.r s.z s.s s.c s.o next) with pc:=farM next rl},W)):=by
  unfold stepM
  rw [if_neg (by rw [hv];simp)]
  exact Lib.hid rfl
 rw [HQ.out]
 clear HQ hm h hn hd hr hx hv
 clear ht0
 simp only [XI.agg,ST.agg] at*
 go_enter func43,ntmps43
 go_upto_region 1 with fail
 refine wp_world (fun W1=>Hid (SwS w0 wr N bw mb ds p RL W ⟨15,a,c,z,wd,sh,d,r,dp,rl,im⟩ s ST.zero W1)) (by exact HE0.out _ _ _) ?_
 intro W1 HL
 clear HE0
 obtain ⟨c0,c1,c2,c3,c4,c5,c6,c7,c8,c9,c10⟩:=XI.at HL.out.x
 go_upto_region 5 with (first
  |(go_at_call 13;(with_reducible refine (HL.out.wm.memory).mono ?_);rintro e w1 ⟨rfl,rfl⟩)
  |(go_at_call 69;(with_reducible refine (HV.out _ HL.out.wm.fr).mono ?_);rintro e w2 ⟨rfl,hf2⟩;replace HL:=Lib.hid (HL.out.no hf2);clear hf2)
)
 clear c0 c1 c2 c3 c4 c5 c6 c7 c8 c9 c10
 go_upto_region 6 with (first
  |(refine HL.out.st.load rfl (.tmp 7) rfl rfl ?_)
  |(refine HL.out.answer HL.out.st.ok rfl (.tmp 8) (.tmp 23) rfl rfl rfl ?_;intro W9 HL)
)
 have oo:=HL.out.res.open_
 have c20:=HL.out.res.at.2.2.2.2
 go_upto_region 7 with fail
 replace HL:=Lib.hid (HL.out.setPC HN.out)
 obtain ⟨W2,hW2⟩:∃W2,W2=W9.setCell ⟨wr.heap.size+1+1,20,none⟩ (.int .u64 next):=⟨_,rfl⟩
 rw [←hW2] at HL ⊢
 clear hW2 oo c20
 obtain ⟨c0,c1,c2,c3,c4,c5,c6,c7,c8,c9,c10⟩:=XI.at HL.out.x
 obtain ⟨bm,nm,hbm,hown⟩:=(HM.out.fr HL.out.wm.fr).touches
 have hlk:=touch_look2 hown hk
 rw [show touchF 15= .nilFunc from by unfold touchF;simp] at hlk
 clear hown
 go_upto_region 9 with fail
 clear hlk hbm hk hz c0 c1 c2 c3 c4 c5 c6 c7 c8 c9 c10
 obtain ⟨c0,c1,c2,c3,c4,c5,c6,c7,c8,c9,c10⟩:=XI.at HL.out.x
 have fq:=fn_nil
 have fg:=fn_guard_nil
 have oo:=HL.out.res.open_
 have c20:=HL.out.res.at.2.2.2.2
 go_upto_region 18 with (first
  |(go_at_call 70;(with_reducible refine (HFA.out _).mono ?_);rintro e w4 ⟨rfl,rfl⟩)
)
 replace HL:=Lib.hid (HL.out.setPC (farM_lt next rl))
 obtain ⟨W3,hW3⟩:∃W3,W3=W2.setCell ⟨wr.heap.size+1+1,20,none⟩ (.int .u64 (farM next rl)):=⟨_,rfl⟩
 rw [←hW3] at HL ⊢
 clear hW3 oo c20
 go_wp2_with (first
  |(refine HL.out.res.load rfl (.tmp 8) rfl rfl ?_)
  |(refine HL.out.answer HL.out.res.ok rfl (.tmp 8) (.tmp 87) rfl rfl rfl ?_;intro W9 HL)
)
 exact bodyPost_ret (results_st2 results43 _ _ _ _ HL.out.res rfl) rfl ⟨rfl,HL.out.end_⟩
theorem step_16t{w0 wr:World}{N bw mb ds p RL W}(h:WM w0 N bw mb ds p RL W wr)(hm:MachAt w0)(a c z:Int)(wd sh:Bool)(d r:Nat)(dp rl im:Int)(next:Nat)(s:ST)(hs:s.ok)(hx:(XI.mk 16 a c z wd sh d r dp rl im).ok)(hn:next<18446744073709551616)(hd:d<16)(hr:r<16)(ht:takenM c s=true)(hv:validM ⟨16,a,c,z,wd,sh,d,r,dp,rl,im⟩=true):
  Calls prog 43 #[.pointer (some ⟨bw,0,none⟩),(XI.mk 16 a c z wd sh d r dp rl im).agg, .int .u64 next,s.agg] wr fun e w'=>StepTo w0 wr N bw mb ds p RL (stepM ds W ⟨16,a,c,z,wd,sh,d,r,dp,rl,im⟩ next s) e w':=by
 have hz:=i64_wf hx.size
 have hk:=i64_wf hx.kind
 simp only at hz hk
 have HV:Hid (∀W',Fr No w0 W'→Calls prog 69 #[(XI.mk 16 a c z wd sh d r dp rl im).agg] W' fun e w'=>e= .returned (.bool true)∧Fr No W' w'):=fun W' hW=>by rw [←hv];exact valid_any _ hz W' (hm.fr hW)
 have HE0:Hid (∀t1 t2 t3,_):=SwS.start h (x:=⟨16,a,c,z,wd,sh,d,r,dp,rl,im⟩) hs
 have HM:=Lib.hid hm
 have HN:=Lib.hid hn
 have HD:=Lib.hid hd
 have HR:=Lib.hid hr
 have hdp:=hx.disp
 have hrl:=hx.rel
 simp only at hdp hrl
 have ht0:(ST.mk s.r s.z s.s s.c s.o next).ok:=⟨hs.len,hs.lt,hn⟩
 have HFA:Hid (∀W',Calls prog 70 #[.int .u64 next, .int .i32 rl] W' fun e w'=>e= .returned (.int .u64 (farM next rl))∧W'=w'):=fun W'=>far_any next rl W' hrl
 have HTK:Hid (∀W',Calls prog 71 #[.int .i64 c,s.agg] W' fun e w'=>e= .returned (.bool true)∧Fr No W' w'):=fun W'=>by rw [←ht];exact taken_any c s W' hs
 have HQ:Hid (stepM ds W ⟨16,a,c,z,wd,sh,d,r,dp,rl,im⟩ next s=(.ok {(ST.mk s.r s.z s.s s.c s.o next) with pc:=farM next rl},W)):=by
  unfold stepM
  rw [if_neg (by rw [hv];simp)]
  dsimp only
  rw [ht]
  exact Lib.hid rfl
 rw [HQ.out]
 clear HQ hm h hn hd hr hx hv
 clear ht0
 simp only [XI.agg,ST.agg] at*
 go_enter func43,ntmps43
 go_upto_region 1 with fail
 refine wp_world (fun W1=>Hid (SwS w0 wr N bw mb ds p RL W ⟨16,a,c,z,wd,sh,d,r,dp,rl,im⟩ s ST.zero W1)) (by exact HE0.out _ _ _) ?_
 intro W1 HL
 clear HE0
 obtain ⟨c0,c1,c2,c3,c4,c5,c6,c7,c8,c9,c10⟩:=XI.at HL.out.x
 go_upto_region 5 with (first
  |(go_at_call 13;(with_reducible refine (HL.out.wm.memory).mono ?_);rintro e w1 ⟨rfl,rfl⟩)
  |(go_at_call 69;(with_reducible refine (HV.out _ HL.out.wm.fr).mono ?_);rintro e w2 ⟨rfl,hf2⟩;replace HL:=Lib.hid (HL.out.no hf2);clear hf2)
)
 clear c0 c1 c2 c3 c4 c5 c6 c7 c8 c9 c10
 go_upto_region 6 with (first
  |(refine HL.out.st.load rfl (.tmp 7) rfl rfl ?_)
  |(refine HL.out.answer HL.out.st.ok rfl (.tmp 8) (.tmp 23) rfl rfl rfl ?_;intro W9 HL)
)
 have oo:=HL.out.res.open_
 have c20:=HL.out.res.at.2.2.2.2
 go_upto_region 7 with fail
 replace HL:=Lib.hid (HL.out.setPC HN.out)
 obtain ⟨W2,hW2⟩:∃W2,W2=W9.setCell ⟨wr.heap.size+1+1,20,none⟩ (.int .u64 next):=⟨_,rfl⟩
 rw [←hW2] at HL ⊢
 clear hW2 oo c20
 obtain ⟨c0,c1,c2,c3,c4,c5,c6,c7,c8,c9,c10⟩:=XI.at HL.out.x
 obtain ⟨bm,nm,hbm,hown⟩:=(HM.out.fr HL.out.wm.fr).touches
 have hlk:=touch_look2 hown hk
 rw [show touchF 16= .nilFunc from by unfold touchF;simp] at hlk
 clear hown
 go_upto_region 9 with fail
 clear hlk hbm hk hz c0 c1 c2 c3 c4 c5 c6 c7 c8 c9 c10
 obtain ⟨c0,c1,c2,c3,c4,c5,c6,c7,c8,c9,c10⟩:=XI.at HL.out.x
 have fq:=fn_nil
 have fg:=fn_guard_nil
 go_upto_region 18 with (first
  |(refine HL.out.st.load rfl (.tmp 7) rfl rfl ?_)
  |(refine HL.out.st.loadG (.tmp 7) rfl rfl rfl ?_)
  |(go_at_call 71;(with_reducible refine (HTK.out _).mono ?_);rintro e w5 ⟨rfl,hf5⟩;replace HL:=Lib.hid (HL.out.no hf5);clear hf5;have oo:=HL.out.res.open_;have c20:=HL.out.res.at.2.2.2.2;obtain ⟨c0,c1,c2,c3,c4,c5,c6,c7,c8,c9,c10⟩:=XI.at HL.out.x)
  |(go_at_call 70;(with_reducible refine (HFA.out _).mono ?_);rintro e w4 ⟨rfl,rfl⟩)
)
 replace HL:=Lib.hid (HL.out.setPC (farM_lt next rl))
 obtain ⟨W3,hW3⟩:∃W3,W3=w5.setCell ⟨wr.heap.size+1+1,20,none⟩ (.int .u64 (farM next rl)):=⟨_,rfl⟩
 rw [←hW3] at HL ⊢
 clear hW3 oo c20
 go_wp2_with (first
  |(refine HL.out.res.load rfl (.tmp 8) rfl rfl ?_)
  |(refine HL.out.answer HL.out.res.ok rfl (.tmp 8) (.tmp 87) rfl rfl rfl ?_;intro W9 HL)
)
 exact bodyPost_ret (results_st2 results43 _ _ _ _ HL.out.res rfl) rfl ⟨rfl,HL.out.end_⟩
theorem step_16f{w0 wr:World}{N bw mb ds p RL W}(h:WM w0 N bw mb ds p RL W wr)(hm:MachAt w0)(a c z:Int)(wd sh:Bool)(d r:Nat)(dp rl im:Int)(next:Nat)(s:ST)(hs:s.ok)(hx:(XI.mk 16 a c z wd sh d r dp rl im).ok)(hn:next<18446744073709551616)(hd:d<16)(hr:r<16)(ht:takenM c s=false)(hv:validM ⟨16,a,c,z,wd,sh,d,r,dp,rl,im⟩=true):
  Calls prog 43 #[.pointer (some ⟨bw,0,none⟩),(XI.mk 16 a c z wd sh d r dp rl im).agg, .int .u64 next,s.agg] wr fun e w'=>StepTo w0 wr N bw mb ds p RL (stepM ds W ⟨16,a,c,z,wd,sh,d,r,dp,rl,im⟩ next s) e w':=by
 have hz:=i64_wf hx.size
 have hk:=i64_wf hx.kind
 simp only at hz hk
 have HV:Hid (∀W',Fr No w0 W'→Calls prog 69 #[(XI.mk 16 a c z wd sh d r dp rl im).agg] W' fun e w'=>e= .returned (.bool true)∧Fr No W' w'):=fun W' hW=>by rw [←hv];exact valid_any _ hz W' (hm.fr hW)
 have HE0:Hid (∀t1 t2 t3,_):=SwS.start h (x:=⟨16,a,c,z,wd,sh,d,r,dp,rl,im⟩) hs
 have HM:=Lib.hid hm
 have HN:=Lib.hid hn
 have HD:=Lib.hid hd
 have HR:=Lib.hid hr
 have hdp:=hx.disp
 have hrl:=hx.rel
 simp only at hdp hrl
 have ht0:(ST.mk s.r s.z s.s s.c s.o next).ok:=⟨hs.len,hs.lt,hn⟩
 have HTK:Hid (∀W',Calls prog 71 #[.int .i64 c,s.agg] W' fun e w'=>e= .returned (.bool false)∧Fr No W' w'):=fun W'=>by rw [←ht];exact taken_any c s W' hs
 have HQ:Hid (stepM ds W ⟨16,a,c,z,wd,sh,d,r,dp,rl,im⟩ next s=(.ok (ST.mk s.r s.z s.s s.c s.o next),W)):=by
  unfold stepM
  rw [if_neg (by rw [hv];simp)]
  dsimp only
  rw [ht]
  exact Lib.hid rfl
 rw [HQ.out]
 clear HQ hm h hn hd hr hx hv
 clear ht0
 simp only [XI.agg,ST.agg] at*
 go_enter func43,ntmps43
 go_upto_region 1 with fail
 refine wp_world (fun W1=>Hid (SwS w0 wr N bw mb ds p RL W ⟨16,a,c,z,wd,sh,d,r,dp,rl,im⟩ s ST.zero W1)) (by exact HE0.out _ _ _) ?_
 intro W1 HL
 clear HE0
 obtain ⟨c0,c1,c2,c3,c4,c5,c6,c7,c8,c9,c10⟩:=XI.at HL.out.x
 go_upto_region 5 with (first
  |(go_at_call 13;(with_reducible refine (HL.out.wm.memory).mono ?_);rintro e w1 ⟨rfl,rfl⟩)
  |(go_at_call 69;(with_reducible refine (HV.out _ HL.out.wm.fr).mono ?_);rintro e w2 ⟨rfl,hf2⟩;replace HL:=Lib.hid (HL.out.no hf2);clear hf2)
)
 clear c0 c1 c2 c3 c4 c5 c6 c7 c8 c9 c10
 go_upto_region 6 with (first
  |(refine HL.out.st.load rfl (.tmp 7) rfl rfl ?_)
  |(refine HL.out.answer HL.out.st.ok rfl (.tmp 8) (.tmp 23) rfl rfl rfl ?_;intro W9 HL)
)
 have oo:=HL.out.res.open_
 have c20:=HL.out.res.at.2.2.2.2
 go_upto_region 7 with fail
 replace HL:=Lib.hid (HL.out.setPC HN.out)
 obtain ⟨W2,hW2⟩:∃W2,W2=W9.setCell ⟨wr.heap.size+1+1,20,none⟩ (.int .u64 next):=⟨_,rfl⟩
 rw [←hW2] at HL ⊢
 clear hW2 oo c20
 obtain ⟨c0,c1,c2,c3,c4,c5,c6,c7,c8,c9,c10⟩:=XI.at HL.out.x
 obtain ⟨bm,nm,hbm,hown⟩:=(HM.out.fr HL.out.wm.fr).touches
 have hlk:=touch_look2 hown hk
 rw [show touchF 16= .nilFunc from by unfold touchF;simp] at hlk
 clear hown
 go_upto_region 9 with fail
 clear hlk hbm hk hz c0 c1 c2 c3 c4 c5 c6 c7 c8 c9 c10
 obtain ⟨c0,c1,c2,c3,c4,c5,c6,c7,c8,c9,c10⟩:=XI.at HL.out.x
 have fq:=fn_nil
 have fg:=fn_guard_nil
 go_upto_region 18 with (first
  |(refine HL.out.st.load rfl (.tmp 7) rfl rfl ?_)
  |(refine HL.out.st.loadG (.tmp 7) rfl rfl rfl ?_)
  |(go_at_call 71;(with_reducible refine (HTK.out _).mono ?_);rintro e w5 ⟨rfl,hf5⟩;replace HL:=Lib.hid (HL.out.no hf5);clear hf5;have oo:=HL.out.res.open_;have c20:=HL.out.res.at.2.2.2.2;obtain ⟨c0,c1,c2,c3,c4,c5,c6,c7,c8,c9,c10⟩:=XI.at HL.out.x)
)
 go_wp2_with (first
  |(refine HL.out.res.load rfl (.tmp 8) rfl rfl ?_)
  |(refine HL.out.answer HL.out.res.ok rfl (.tmp 8) (.tmp 87) rfl rfl rfl ?_;intro W9 HL)
)
 exact bodyPost_ret (results_st2 results43 _ _ _ _ HL.out.res rfl) rfl ⟨rfl,HL.out.end_⟩
end Go.Proofs.YtfmcmfiebehhiaaGreatDoor

