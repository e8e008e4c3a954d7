/- package machine: Step. (printed by mkstep.py) package machine, plain: Exec's answer is a state that may be. -/
import Derived.Test.YtjcgmhlbkheadaaGreatDoorCore29
set_option linter.all false
set_option linter.unusedVariables false
set_option linter.unusedSimpArgs false
set_option maxRecDepth 100000
set_option maxHeartbeats 2000000
namespace Go.Proofs.YtjcgmhlbkheadaaGreatDoor
open Go.RowKit Go.Maps
theorem fn_neq(n:Nat)(W:World):(binOp .neq 94 (.func (.func n) #[] #[]) .nilFunc).run Tryz.prog W= .ok (.bool true) W:=by kernel_rfl
theorem fn_guard(n:Nat)(x y:Operand)(W:World):(eqGuard .neq 94 x y (.func (.func n) #[] #[]) .nilFunc).run Tryz.prog W= .ok () W:=by kernel_rfl
theorem fn_nil(W:World):(binOp .neq 94 .nilFunc .nilFunc).run Tryz.prog W= .ok (.bool false) W:=by kernel_rfl
theorem fn_guard_nil(x y:Operand)(W:World):(eqGuard .neq 94 x y .nilFunc .nilFunc).run Tryz.prog W= .ok () W:=by kernel_rfl
theorem touch_look2{w:World}{bm n:Nat}(h:w.ownsMap Tryz.prog 3 fnR bm n touchesD){k:Int}(hw:(Lit.int .i64 k).wf=true):
  (Instr.lookup 95 (.map (some bm)) (.int .i64 k) false).run Tryz.prog w= .ok (touchF k) w:=by
 obtain ⟨v,ps,hrun,hv⟩:=h.lookup (int_keyed Tryz.underlying3) Tryz.underlying95 (z:= .nilFunc) (by kernel_rfl) (zd:= .nil) (zp:= []) rfl (Go.Maps.keyOf_int_mk Tryz.underlying3 hw)
 rw [hrun]
 congr 1
 unfold touchF
 by_cases h1:k=13
 ·subst h1;exact fnR_inv (by kernel_rfl) hv
 by_cases h2:k=14
 ·subst h2;exact fnR_inv (by kernel_rfl) hv
 by_cases h3:k=17
 ·subst h3;exact fnR_inv (by kernel_rfl) hv
 by_cases h4:k=18
 ·subst h4;exact fnR_inv (by kernel_rfl) hv
 by_cases h5:k=19
 ·subst h5;exact fnR_inv (by kernel_rfl) hv
 rw [if_neg h1,if_neg h2,if_neg h3,if_neg h4,if_neg h5]
 have e:touchesD.atKey (.int .i64 k) .nil= .nil:=by
  have s:∀x:Int,¬k=x→(Lit.int .i64 x).sameKey (.int .i64 k)=false:=fun x hx=>by simp [Lit.sameKey,Ne.symm hx]
  unfold touchesD DataW.atKey
  simp only [List.find?_cons,s 13 h1,s 14 h2,s 17 h3,s 18 h4,s 19 h5,List.find?_nil]
 rw [e] at hv
 exact fnR_nil hv
structure SwS(w0 wr:World)(N bw mb:Nat)(ds:List MapD)(p:Nat)(RL:List Reg)(W:HW)(x:XI)(s t:ST)(w:World):Prop where
 wm:WM w0 N bw mb ds p RL W w
 x:XAt w wr.heap.size x
 st:SAt w (wr.heap.size+1) s
 res:SAt w (wr.heap.size+1+1) t
 fr:Fr (fun k=>Zof w0 N k∨wr.heap.size≤k) wr w
 lb:N≤wr.heap.size
theorem SwS.start{w0 wr:World}{N bw mb:Nat}{ds:List MapD}{p:Nat}{RL:List Reg}{W:HW}(h:WM w0 N bw mb ds p RL W wr){x:XI}{s:ST}(hs:s.ok)(t1 t2 t3:TypeId):SwS w0 wr N bw mb ds p RL W x s ST.zero (((wr.alloc (.cells x.cells.toArray t1)).alloc (.cells s.cells.toArray t2)).alloc (.cells ST.zero.cells.toArray t3)):=by
 have he:=ESt.start (w:=wr) (x:=x) hs t1 t2 t3
 exact ⟨h.to he.fr,he.x,he.st,he.res,he.fr.any,h.bound⟩
theorem SwS.no{w0 wr:World}{N bw mb:Nat}{ds:List MapD}{p:Nat}{RL:List Reg}{W:HW}{x:XI}{s t:ST}{w w':World}(h:SwS w0 wr N bw mb ds p RL W x s t w)(hf:Fr No w w'):SwS w0 wr N bw mb ds p RL W x s t w':=
 ⟨h.wm.to hf,hf.cells h.x id,h.st.fr hf id,h.res.fr hf id,h.fr.trans hf.any,h.lb⟩
theorem SwS.tou{w0 wr:World}{N bw mb:Nat}{ds:List MapD}{p:Nat}{RL:List Reg}{W W':HW}{x:XI}{s t t':ST}{w w':World}(h:SwS w0 wr N bw mb ds p RL W x s t w)(ht:TouTo w0 N bw mb ds p RL W' (wr.heap.size+1+1) t' w w'):SwS w0 wr N bw mb ds p RL W' x s t' w':=by
 have hlb:=h.lb
 have n1:∀k,k<wr.heap.size+2→N≤k→¬(Zof w0 N k∨k=wr.heap.size+1+1):=fun k h1 h2 hz=>by
  rcases hz with hz|hz
  ·have:=hz.2;omega
  ·omega
 exact ⟨ht.1.out,ht.2.2.out.cells h.x (n1 _ (by omega) (by omega)),h.st.fr ht.2.2.out (n1 _ (by omega) (by omega)),ht.2.1.out,h.fr.trans (ht.2.2.out.mono fun k _ hk=>hk.imp id fun e=>by omega),h.lb⟩
theorem SwS.box{w0 wr:World}{N bw mb:Nat}{ds:List MapD}{p:Nat}{RL:List Reg}{W:HW}{x:XI}{s t t':ST}{w w':World}(h:SwS w0 wr N bw mb ds p RL W x s t w)(ht:SAt w' (wr.heap.size+1+1) t')(hf:Fr (fun k=>k=wr.heap.size+1+1) w w'):SwS w0 wr N bw mb ds p RL W x s t' w':=
 h.tou ⟨h.wm.beside hf (fun k hk=>by have:=h.lb;omega),ht,hf.mono fun _ _ hk=> .inr hk⟩
theorem SwS.setPC{w0 wr:World}{N bw mb:Nat}{ds:List MapD}{p:Nat}{RL:List Reg}{W:HW}{x:XI}{s t:ST}{w:World}(h:SwS w0 wr N bw mb ds p RL W x s t w){v:Nat}(hv:v<18446744073709551616):SwS w0 wr N bw mb ds p RL W x s {t with pc:=v} (w.setCell ⟨wr.heap.size+1+1,20,none⟩ (.int .u64 v)):=
 h.box (h.res.setPC hv) ((Fr.refl (fun k=>k=wr.heap.size+1+1) w).setCell (p:=⟨wr.heap.size+1+1,20,none⟩) (.inr rfl) _)
theorem SwS.answer{w0 wr:World}{N bw mb:Nat}{ds:List MapD}{p:Nat}{RL:List Reg}{W:HW}{x:XI}{s u:ST}{w:World}(h:SwS w0 wr N bw mb ds p RL W x s u w){t:ST}(ht:t.ok){ops:Array Oper}{rest:List Oper}{op:Oper}{a:Act}{Q:Exit→Act→World→Prop}(hgd:op.guard=none)(px py:Operand)(ho:op.op= .store 43 px py)
  (hx:a.eval px= .pointer (some ⟨wr.heap.size+1+1,0,none⟩)) (hy:a.eval py= .agg t.cells.toArray) (k:∀W',Hid (SwS w0 wr N bw mb ds p RL W x s t W')→wpList Tryz.prog ops Q rest (a.put op.dst undef) W'):wpList Tryz.prog ops Q (op::rest) a w:=
 h.res.store ht hgd px py ho hx hy fun W' h1 h2=>k W' (h.box h1 h2)
theorem SwS.end_{w0 wr:World}{N bw mb:Nat}{ds:List MapD}{p:Nat}{RL:List Reg}{W:HW}{x:XI}{s t:ST}{w:World}(h:SwS w0 wr N bw mb ds p RL W x s t w):Hid (WM w0 N bw mb ds p RL W w)∧Hid (Fr (Zof w0 N) wr w):=⟨h.wm,h.fr.mono fun k hk hz=>hz.resolve_right (by omega)⟩
def StepTo(w0 wr:World)(N bw mb:Nat)(ds:List MapD)(p:Nat)(RL:List Reg)(q:Except Int ST×HW)(e:Ending)(w':World):Prop:=e= .returned (exV q.1)∧Hid (WM w0 N bw mb ds p RL q.2 w')∧Hid (Fr (Zof w0 N) wr w')
theorem step_13{w0 wr:World}{N bw mb:Nat}{ds:List MapD}{p:Nat}{RL:List Reg}{W:HW}(h:WM w0 N bw mb ds p RL W wr)(hm:MachAt w0)(a c z:Int)(wd sh:Bool)(d r:Nat)(dp rl im:Int)(next:Nat)(s:ST)(hs:s.ok)(hx:(XI.mk 13 a c z wd sh d r dp rl im).ok)(hn:next<18446744073709551616)(hd:d<16)(hr:r<16)(hv:validM ⟨13,a,c,z,wd,sh,d,r,dp,rl,im⟩=true):
  Calls Tryz.prog 12 #[.pointer (some ⟨bw,0,none⟩),(XI.mk 13 a c z wd sh d r dp rl im).agg, .int .u64 next,s.agg] wr fun e w'=>StepTo w0 wr N bw mb ds p RL (stepM ds W ⟨13,a,c,z,wd,sh,d,r,dp,rl,im⟩ next s) e w':=by
 have hz:=i64_wf hx.size
 have hk:=i64_wf hx.kind
 simp only at hz hk
 have HV:Hid (∀W',Fr No w0 W'→Calls Tryz.prog 33 #[(XI.mk 13 a c z wd sh d r dp rl im).agg] W' fun e w'=>e= .returned (.bool true)∧Fr No W' w'):=fun W' hW=>by rw [←hv];exact valid_any _ hz W' (hm.fr hW)
 have HE0:Hid (∀t1 t2 t3,_):=SwS.start h (x:=⟨13,a,c,z,wd,sh,d,r,dp,rl,im⟩) hs
 have HM:=Lib.hid hm
 have HN:=Lib.hid hn
 have HD:=Lib.hid hd
 have HR:=Lib.hid hr
 have hdp:=hx.disp
 have hrl:=hx.rel
 simp only at hdp hrl
 have ht0:(ST.mk s.r s.z s.s s.c s.o next).ok:=⟨hs.len,hs.lt,hn⟩
 have HTQ:Hid (touchM ⟨13,a,c,z,wd,sh,d,r,dp,rl,im⟩ s=(farM (s.reg r) dp,z)):=by
  unfold touchM
  rw [if_neg (by rw [hv];simp)]
  exact Lib.hid rfl
 have HT:Hid (∀W',Fr No w0 W'→Calls Tryz.prog 34 #[(XI.mk 13 a c z wd sh d r dp rl im).agg,s.agg] W' fun e w'=>e= .returned (touV (farM (s.reg r) dp,z))∧Fr No W' w'):=fun W' hW=>by rw [←HTQ.out];exact touch_any _ s W' hx hs (hm.fr hW)
 have HF:Hid (∀W',WM w0 N bw mb ds p RL W W'→SAt W' (wr.heap.size+1+1) (ST.mk s.r s.z s.s s.c s.o next)→Calls Tryz.prog 176 #[.pointer (some ⟨bw,0,none⟩),(XI.mk 13 a c z wd sh d r dp rl im).agg, .int .u64 (farM (s.reg r) dp,z).1, .int .i64 (farM (s.reg r) dp,z).2, .pointer (some ⟨wr.heap.size+1+1,0,none⟩)] W' fun e w'=>e= .returned (.int .i64 (mread W.m (farM (s.reg r) dp) z).2)∧TouTo w0 N bw mb ds p RL W (wr.heap.size+1+1) ((ST.mk s.r s.z s.s s.c s.o next).set d (mread W.m (farM (s.reg r) dp) z).1) W' w'):=fun W' hW hS=>touches1_any hW 13 a c z wd sh d r dp rl im _ _ _ _ hS (by have:=h.bound;omega) (by first|exact farM_lt _ _|exact hs.reg _) hd hr
 have HQ:Hid (stepM ds W ⟨13,a,c,z,wd,sh,d,r,dp,rl,im⟩ next s=(exE (mread W.m (farM (s.reg r) dp) z).2 ((ST.mk s.r s.z s.s s.c s.o next).set d (mread W.m (farM (s.reg r) dp) z).1),W)):=by
  unfold stepM
  rw [if_neg (by rw [hv];simp)]
  dsimp only
  rw [HTQ.out]
  exact Lib.hid rfl
 rw [HQ.out]
 clear HQ HTQ ht0 hm h hn hd hr hx hv
 generalize (mread W.m (farM (s.reg r) dp) z).2=E at*
 generalize hT2:((ST.mk s.r s.z s.s s.c s.o next).set d (mread W.m (farM (s.reg r) dp) z).1)=T2 at*
 clear hT2
 simp only [touV] at HT HF
 generalize (farM (s.reg r) dp,z).1=A at*
 simp only [XI.agg,ST.agg] at*
 go_enter Tryz.func12,Tryz.ntmps12
 go_upto_region 1 with fail
 refine wp_world (fun W1=>Hid (SwS w0 wr N bw mb ds p RL W ⟨13,a,c,z,wd,sh,d,r,dp,rl,im⟩ s ST.zero W1)) (by exact HE0.out _ _ _) ?_
 intro W1 HL
 clear HE0
 obtain ⟨c0,c1,c2,c3,c4,c5,c6,c7,c8,c9,c10⟩:=XI.at HL.out.x
 go_upto_region 5 with (first
  |(go_at_call 10;(with_reducible refine (HL.out.wm.memory).mono ?_);rintro e w1 ⟨rfl,rfl⟩)
  |(go_at_call 33;(with_reducible refine (HV.out _ HL.out.wm.fr).mono ?_);rintro e w2 ⟨rfl,hf2⟩;replace HL:=Lib.hid (HL.out.no hf2);clear hf2)
)
 clear c0 c1 c2 c3 c4 c5 c6 c7 c8 c9 c10
 go_upto_region 6 with (first
  |(refine HL.out.st.load rfl (.tmp 7) rfl rfl ?_)
  |(refine HL.out.answer HL.out.st.ok rfl (.tmp 8) (.tmp 23) rfl rfl rfl ?_;intro W9 HL)
)
 have oo:=HL.out.res.open_
 have c20:=HL.out.res.at.2.2.2.2
 go_upto_region 7 with fail
 replace HL:=Lib.hid (HL.out.setPC HN.out)
 obtain ⟨W2,hW2⟩:∃W2,W2=W9.setCell ⟨wr.heap.size+1+1,20,none⟩ (.int .u64 next):=⟨_,rfl⟩
 rw [←hW2] at HL ⊢
 clear hW2 oo c20
 obtain ⟨c0,c1,c2,c3,c4,c5,c6,c7,c8,c9,c10⟩:=XI.at HL.out.x
 obtain ⟨bm,nm,hbm,hown⟩:=(HM.out.fr HL.out.wm.fr).touches
 have hlk:=touch_look2 hown hk
 rw [show touchF 13= .func (.func 176) #[] #[] from rfl] at hlk
 clear hown
 go_upto_region 9 with fail
 clear hlk hbm hk hz c0 c1 c2 c3 c4 c5 c6 c7 c8 c9 c10
 obtain ⟨c0,c1,c2,c3,c4,c5,c6,c7,c8,c9,c10⟩:=XI.at HL.out.x
 have fq:=fn_neq 176
 have fg:=fn_guard 176
 go_upto_region 18 with (first
  |(refine HL.out.st.load rfl (.tmp 7) rfl rfl ?_)
  |(go_at_call 34;(with_reducible refine (HT.out _ HL.out.wm.fr).mono ?_);rintro e w2 ⟨rfl,hf2⟩;replace HL:=Lib.hid (HL.out.no hf2);clear hf2;obtain ⟨c0,c1,c2,c3,c4,c5,c6,c7,c8,c9,c10⟩:=XI.at HL.out.x)
  |(go_at_call 176;(with_reducible refine (HF.out _ HL.out.wm HL.out.res).mono ?_);rintro e w3 ⟨rfl,ht3⟩;replace HL:=Lib.hid (HL.out.tou ht3);clear ht3)
)
 rcases Int.decEq E 0 with hE|hE
 ·have hE1:(E !=0)=true:=by rw [bne_iff_ne];exact hE
  go_wp2_with (first
  |(refine HL.out.answer ST.zero_ok rfl (.tmp 8) (.tmp 85) rfl rfl rfl ?_;intro W9 HL)
)
  exact bodyPost_ret (results_st2 Tryz.results12 _ _ _ ST.zero HL.out.res rfl) rfl ⟨by rw [show exE E T2= .error E from if_neg hE];rfl,HL.out.end_⟩
 ·have hE1:(E !=0)=false:=by rw [hE];rfl
  go_wp2_with (first
  |(refine HL.out.res.load rfl (.tmp 8) rfl rfl ?_)
  |(refine HL.out.answer HL.out.res.ok rfl (.tmp 8) (.tmp 87) rfl rfl rfl ?_;intro W9 HL)
)
  exact bodyPost_ret (results_st2 Tryz.results12 _ _ _ T2 HL.out.res rfl) rfl ⟨by rw [show exE E T2= .ok T2 from if_pos hE];rfl,HL.out.end_⟩
theorem step_14{w0 wr:World}{N bw mb:Nat}{ds:List MapD}{p:Nat}{RL:List Reg}{W:HW}(h:WM w0 N bw mb ds p RL W wr)(hm:MachAt w0)(a c z:Int)(wd sh:Bool)(d r:Nat)(dp rl im:Int)(next:Nat)(s:ST)(hs:s.ok)(hx:(XI.mk 14 a c z wd sh d r dp rl im).ok)(hn:next<18446744073709551616)(hd:d<16)(hr:r<16)(hv:validM ⟨14,a,c,z,wd,sh,d,r,dp,rl,im⟩=true):
  Calls Tryz.prog 12 #[.pointer (some ⟨bw,0,none⟩),(XI.mk 14 a c z wd sh d r dp rl im).agg, .int .u64 next,s.agg] wr fun e w'=>StepTo w0 wr N bw mb ds p RL (stepM ds W ⟨14,a,c,z,wd,sh,d,r,dp,rl,im⟩ next s) e w':=by
 have hz:=i64_wf hx.size
 have hk:=i64_wf hx.kind
 simp only at hz hk
 have HV:Hid (∀W',Fr No w0 W'→Calls Tryz.prog 33 #[(XI.mk 14 a c z wd sh d r dp rl im).agg] W' fun e w'=>e= .returned (.bool true)∧Fr No W' w'):=fun W' hW=>by rw [←hv];exact valid_any _ hz W' (hm.fr hW)
 have HE0:Hid (∀t1 t2 t3,_):=SwS.start h (x:=⟨14,a,c,z,wd,sh,d,r,dp,rl,im⟩) hs
 have HM:=Lib.hid hm
 have HN:=Lib.hid hn
 have HD:=Lib.hid hd
 have HR:=Lib.hid hr
 have hdp:=hx.disp
 have hrl:=hx.rel
 simp only at hdp hrl
 have ht0:(ST.mk s.r s.z s.s s.c s.o next).ok:=⟨hs.len,hs.lt,hn⟩
 have HTQ:Hid (touchM ⟨14,a,c,z,wd,sh,d,r,dp,rl,im⟩ s=(farM (s.reg d) dp,z)):=by
  unfold touchM
  rw [if_neg (by rw [hv];simp)]
  exact Lib.hid rfl
 have HT:Hid (∀W',Fr No w0 W'→Calls Tryz.prog 34 #[(XI.mk 14 a c z wd sh d r dp rl im).agg,s.agg] W' fun e w'=>e= .returned (touV (farM (s.reg d) dp,z))∧Fr No W' w'):=fun W' hW=>by rw [←HTQ.out];exact touch_any _ s W' hx hs (hm.fr hW)
 have HF:Hid (∀W',WM w0 N bw mb ds p RL W W'→SAt W' (wr.heap.size+1+1) (ST.mk s.r s.z s.s s.c s.o next)→Calls Tryz.prog 178 #[.pointer (some ⟨bw,0,none⟩),(XI.mk 14 a c z wd sh d r dp rl im).agg, .int .u64 (farM (s.reg d) dp,z).1, .int .i64 (farM (s.reg d) dp,z).2, .pointer (some ⟨wr.heap.size+1+1,0,none⟩)] W' fun e w'=>e= .returned (.int .i64 (mwrite W.m (farM (s.reg d) dp) z (s.reg r)).2)∧TouTo w0 N bw mb ds p RL {W with m:=(mwrite W.m (farM (s.reg d) dp) z (s.reg r)).1} (wr.heap.size+1+1) (ST.mk s.r s.z s.s s.c s.o next) W' w'):=fun W' hW hS=>touches2_any hW 14 a c z wd sh d r dp rl im _ _ _ _ hS (by have:=h.bound;omega) (by first|exact farM_lt _ _|exact hs.reg _) hd hr
 have HQ:Hid (stepM ds W ⟨14,a,c,z,wd,sh,d,r,dp,rl,im⟩ next s=(exE (mwrite W.m (farM (s.reg d) dp) z (s.reg r)).2 (ST.mk s.r s.z s.s s.c s.o next),{W with m:=(mwrite W.m (farM (s.reg d) dp) z (s.reg r)).1})):=by
  unfold stepM
  rw [if_neg (by rw [hv];simp)]
  dsimp only
  rw [HTQ.out]
  exact Lib.hid rfl
 rw [HQ.out]
 clear HQ HTQ ht0 hm h hn hd hr hx hv
 generalize (mwrite W.m (farM (s.reg d) dp) z (s.reg r)).2=E at*
 generalize {W with m:=(mwrite W.m (farM (s.reg d) dp) z (s.reg r)).1}=V2 at*
 simp only [touV] at HT HF
 generalize (farM (s.reg d) dp,z).1=A at*
 simp only [XI.agg,ST.agg] at*
 go_enter Tryz.func12,Tryz.ntmps12
 go_upto_region 1 with fail
 refine wp_world (fun W1=>Hid (SwS w0 wr N bw mb ds p RL W ⟨14,a,c,z,wd,sh,d,r,dp,rl,im⟩ s ST.zero W1)) (by exact HE0.out _ _ _) ?_
 intro W1 HL
 clear HE0
 obtain ⟨c0,c1,c2,c3,c4,c5,c6,c7,c8,c9,c10⟩:=XI.at HL.out.x
 go_upto_region 5 with (first
  |(go_at_call 10;(with_reducible refine (HL.out.wm.memory).mono ?_);rintro e w1 ⟨rfl,rfl⟩)
  |(go_at_call 33;(with_reducible refine (HV.out _ HL.out.wm.fr).mono ?_);rintro e w2 ⟨rfl,hf2⟩;replace HL:=Lib.hid (HL.out.no hf2);clear hf2)
)
 clear c0 c1 c2 c3 c4 c5 c6 c7 c8 c9 c10
 go_upto_region 6 with (first
  |(refine HL.out.st.load rfl (.tmp 7) rfl rfl ?_)
  |(refine HL.out.answer HL.out.st.ok rfl (.tmp 8) (.tmp 23) rfl rfl rfl ?_;intro W9 HL)
)
 have oo:=HL.out.res.open_
 have c20:=HL.out.res.at.2.2.2.2
 go_upto_region 7 with fail
 replace HL:=Lib.hid (HL.out.setPC HN.out)
 obtain ⟨W2,hW2⟩:∃W2,W2=W9.setCell ⟨wr.heap.size+1+1,20,none⟩ (.int .u64 next):=⟨_,rfl⟩
 rw [←hW2] at HL ⊢
 clear hW2 oo c20
 obtain ⟨c0,c1,c2,c3,c4,c5,c6,c7,c8,c9,c10⟩:=XI.at HL.out.x
 obtain ⟨bm,nm,hbm,hown⟩:=(HM.out.fr HL.out.wm.fr).touches
 have hlk:=touch_look2 hown hk
 rw [show touchF 14= .func (.func 178) #[] #[] from rfl] at hlk
 clear hown
 go_upto_region 9 with fail
 clear hlk hbm hk hz c0 c1 c2 c3 c4 c5 c6 c7 c8 c9 c10
 obtain ⟨c0,c1,c2,c3,c4,c5,c6,c7,c8,c9,c10⟩:=XI.at HL.out.x
 have fq:=fn_neq 178
 have fg:=fn_guard 178
 go_upto_region 18 with (first
  |(refine HL.out.st.load rfl (.tmp 7) rfl rfl ?_)
  |(go_at_call 34;(with_reducible refine (HT.out _ HL.out.wm.fr).mono ?_);rintro e w2 ⟨rfl,hf2⟩;replace HL:=Lib.hid (HL.out.no hf2);clear hf2;obtain ⟨c0,c1,c2,c3,c4,c5,c6,c7,c8,c9,c10⟩:=XI.at HL.out.x)
  |(go_at_call 178;(with_reducible refine (HF.out _ HL.out.wm HL.out.res).mono ?_);rintro e w3 ⟨rfl,ht3⟩;replace HL:=Lib.hid (HL.out.tou ht3);clear ht3)
)
 rcases Int.decEq E 0 with hE|hE
 ·have hE1:(E !=0)=true:=by rw [bne_iff_ne];exact hE
  go_wp2_with (first
  |(refine HL.out.answer ST.zero_ok rfl (.tmp 8) (.tmp 85) rfl rfl rfl ?_;intro W9 HL)
)
  exact bodyPost_ret (results_st2 Tryz.results12 _ _ _ ST.zero HL.out.res rfl) rfl ⟨by rw [show exE E (ST.mk s.r s.z s.s s.c s.o next)= .error E from if_neg hE];rfl,HL.out.end_⟩
 ·have hE1:(E !=0)=false:=by rw [hE];rfl
  go_wp2_with (first
  |(refine HL.out.res.load rfl (.tmp 8) rfl rfl ?_)
  |(refine HL.out.answer HL.out.res.ok rfl (.tmp 8) (.tmp 87) rfl rfl rfl ?_;intro W9 HL)
)
  exact bodyPost_ret (results_st2 Tryz.results12 _ _ _ (ST.mk s.r s.z s.s s.c s.o next) HL.out.res rfl) rfl ⟨by rw [show exE E (ST.mk s.r s.z s.s s.c s.o next)= .ok (ST.mk s.r s.z s.s s.c s.o next) from if_pos hE];rfl,HL.out.end_⟩
theorem step_17{w0 wr:World}{N bw mb:Nat}{ds:List MapD}{p:Nat}{RL:List Reg}{W:HW}(h:WM w0 N bw mb ds p RL W wr)(hm:MachAt w0)(a c z:Int)(wd sh:Bool)(d r:Nat)(dp rl im:Int)(next:Nat)(s:ST)(hs:s.ok)(hx:(XI.mk 17 a c z wd sh d r dp rl im).ok)(hn:next<18446744073709551616)(hd:d<16)(hr:r<16)(hv:validM ⟨17,a,c,z,wd,sh,d,r,dp,rl,im⟩=true):
  Calls Tryz.prog 12 #[.pointer (some ⟨bw,0,none⟩),(XI.mk 17 a c z wd sh d r dp rl im).agg, .int .u64 next,s.agg] wr fun e w'=>StepTo w0 wr N bw mb ds p RL (stepM ds W ⟨17,a,c,z,wd,sh,d,r,dp,rl,im⟩ next s) e w':=by
 have hz:=i64_wf hx.size
 have hk:=i64_wf hx.kind
 simp only at hz hk
 have HV:Hid (∀W',Fr No w0 W'→Calls Tryz.prog 33 #[(XI.mk 17 a c z wd sh d r dp rl im).agg] W' fun e w'=>e= .returned (.bool true)∧Fr No W' w'):=fun W' hW=>by rw [←hv];exact valid_any _ hz W' (hm.fr hW)
 have HE0:Hid (∀t1 t2 t3,_):=SwS.start h (x:=⟨17,a,c,z,wd,sh,d,r,dp,rl,im⟩) hs
 have HM:=Lib.hid hm
 have HN:=Lib.hid hn
 have HD:=Lib.hid hd
 have HR:=Lib.hid hr
 have hdp:=hx.disp
 have hrl:=hx.rel
 simp only at hdp hrl
 have ht0:(ST.mk s.r s.z s.s s.c s.o next).ok:=⟨hs.len,hs.lt,hn⟩
 have HTQ:Hid (touchM ⟨17,a,c,z,wd,sh,d,r,dp,rl,im⟩ s=(farM (s.reg 4) (-8),8)):=by
  unfold touchM
  rw [if_neg (by rw [hv];simp)]
  exact Lib.hid rfl
 have HT:Hid (∀W',Fr No w0 W'→Calls Tryz.prog 34 #[(XI.mk 17 a c z wd sh d r dp rl im).agg,s.agg] W' fun e w'=>e= .returned (touV (farM (s.reg 4) (-8),8))∧Fr No W' w'):=fun W' hW=>by rw [←HTQ.out];exact touch_any _ s W' hx hs (hm.fr hW)
 have HF:Hid (∀W',WM w0 N bw mb ds p RL W W'→SAt W' (wr.heap.size+1+1) (ST.mk s.r s.z s.s s.c s.o next)→Calls Tryz.prog 179 #[.pointer (some ⟨bw,0,none⟩),(XI.mk 17 a c z wd sh d r dp rl im).agg, .int .u64 (farM (s.reg 4) (-8),8).1, .int .i64 (farM (s.reg 4) (-8),8).2, .pointer (some ⟨wr.heap.size+1+1,0,none⟩)] W' fun e w'=>e= .returned (.int .i64 (mwrite W.m (farM (s.reg 4) (-8)) 8 (s.reg d)).2)∧TouTo w0 N bw mb ds p RL {W with m:=(mwrite W.m (farM (s.reg 4) (-8)) 8 (s.reg d)).1} (wr.heap.size+1+1) ((ST.mk s.r s.z s.s s.c s.o next).set 4 (farM (s.reg 4) (-8))) W' w'):=fun W' hW hS=>touches3_any hW 17 a c z wd sh d r dp rl im _ _ _ _ hS (by have:=h.bound;omega) (by first|exact farM_lt _ _|exact hs.reg _) hd hr
 have HQ:Hid (stepM ds W ⟨17,a,c,z,wd,sh,d,r,dp,rl,im⟩ next s=(exE (mwrite W.m (farM (s.reg 4) (-8)) 8 (s.reg d)).2 ((ST.mk s.r s.z s.s s.c s.o next).set 4 (farM (s.reg 4) (-8))),{W with m:=(mwrite W.m (farM (s.reg 4) (-8)) 8 (s.reg d)).1})):=by
  unfold stepM
  rw [if_neg (by rw [hv];simp)]
  dsimp only
  rw [HTQ.out]
  exact Lib.hid rfl
 rw [HQ.out]
 clear HQ HTQ ht0 hm h hn hd hr hx hv
 generalize (mwrite W.m (farM (s.reg 4) (-8)) 8 (s.reg d)).2=E at*
 generalize hT2:((ST.mk s.r s.z s.s s.c s.o next).set 4 (farM (s.reg 4) (-8)))=T2 at*
 clear hT2
 generalize {W with m:=(mwrite W.m (farM (s.reg 4) (-8)) 8 (s.reg d)).1}=V2 at*
 simp only [touV] at HT HF
 generalize (farM (s.reg 4) (-8),8).1=A at*
 simp only [XI.agg,ST.agg] at*
 go_enter Tryz.func12,Tryz.ntmps12
 go_upto_region 1 with fail
 refine wp_world (fun W1=>Hid (SwS w0 wr N bw mb ds p RL W ⟨17,a,c,z,wd,sh,d,r,dp,rl,im⟩ s ST.zero W1)) (by exact HE0.out _ _ _) ?_
 intro W1 HL
 clear HE0
 obtain ⟨c0,c1,c2,c3,c4,c5,c6,c7,c8,c9,c10⟩:=XI.at HL.out.x
 go_upto_region 5 with (first
  |(go_at_call 10;(with_reducible refine (HL.out.wm.memory).mono ?_);rintro e w1 ⟨rfl,rfl⟩)
  |(go_at_call 33;(with_reducible refine (HV.out _ HL.out.wm.fr).mono ?_);rintro e w2 ⟨rfl,hf2⟩;replace HL:=Lib.hid (HL.out.no hf2);clear hf2)
)
 clear c0 c1 c2 c3 c4 c5 c6 c7 c8 c9 c10
 go_upto_region 6 with (first
  |(refine HL.out.st.load rfl (.tmp 7) rfl rfl ?_)
  |(refine HL.out.answer HL.out.st.ok rfl (.tmp 8) (.tmp 23) rfl rfl rfl ?_;intro W9 HL)
)
 have oo:=HL.out.res.open_
 have c20:=HL.out.res.at.2.2.2.2
 go_upto_region 7 with fail
 replace HL:=Lib.hid (HL.out.setPC HN.out)
 obtain ⟨W2,hW2⟩:∃W2,W2=W9.setCell ⟨wr.heap.size+1+1,20,none⟩ (.int .u64 next):=⟨_,rfl⟩
 rw [←hW2] at HL ⊢
 clear hW2 oo c20
 obtain ⟨c0,c1,c2,c3,c4,c5,c6,c7,c8,c9,c10⟩:=XI.at HL.out.x
 obtain ⟨bm,nm,hbm,hown⟩:=(HM.out.fr HL.out.wm.fr).touches
 have hlk:=touch_look2 hown hk
 rw [show touchF 17= .func (.func 179) #[] #[] from rfl] at hlk
 clear hown
 go_upto_region 9 with fail
 clear hlk hbm hk hz c0 c1 c2 c3 c4 c5 c6 c7 c8 c9 c10
 obtain ⟨c0,c1,c2,c3,c4,c5,c6,c7,c8,c9,c10⟩:=XI.at HL.out.x
 have fq:=fn_neq 179
 have fg:=fn_guard 179
 go_upto_region 18 with (first
  |(refine HL.out.st.load rfl (.tmp 7) rfl rfl ?_)
  |(go_at_call 34;(with_reducible refine (HT.out _ HL.out.wm.fr).mono ?_);rintro e w2 ⟨rfl,hf2⟩;replace HL:=Lib.hid (HL.out.no hf2);clear hf2;obtain ⟨c0,c1,c2,c3,c4,c5,c6,c7,c8,c9,c10⟩:=XI.at HL.out.x)
  |(go_at_call 179;(with_reducible refine (HF.out _ HL.out.wm HL.out.res).mono ?_);rintro e w3 ⟨rfl,ht3⟩;replace HL:=Lib.hid (HL.out.tou ht3);clear ht3)
)
 rcases Int.decEq E 0 with hE|hE
 ·have hE1:(E !=0)=true:=by rw [bne_iff_ne];exact hE
  go_wp2_with (first
  |(refine HL.out.answer ST.zero_ok rfl (.tmp 8) (.tmp 85) rfl rfl rfl ?_;intro W9 HL)
)
  exact bodyPost_ret (results_st2 Tryz.results12 _ _ _ ST.zero HL.out.res rfl) rfl ⟨by rw [show exE E T2= .error E from if_neg hE];rfl,HL.out.end_⟩
 ·have hE1:(E !=0)=false:=by rw [hE];rfl
  go_wp2_with (first
  |(refine HL.out.res.load rfl (.tmp 8) rfl rfl ?_)
  |(refine HL.out.answer HL.out.res.ok rfl (.tmp 8) (.tmp 87) rfl rfl rfl ?_;intro W9 HL)
)
  exact bodyPost_ret (results_st2 Tryz.results12 _ _ _ T2 HL.out.res rfl) rfl ⟨by rw [show exE E T2= .ok T2 from if_pos hE];rfl,HL.out.end_⟩
theorem step_18{w0 wr:World}{N bw mb:Nat}{ds:List MapD}{p:Nat}{RL:List Reg}{W:HW}(h:WM w0 N bw mb ds p RL W wr)(hm:MachAt w0)(a c z:Int)(wd sh:Bool)(d r:Nat)(dp rl im:Int)(next:Nat)(s:ST)(hs:s.ok)(hx:(XI.mk 18 a c z wd sh d r dp rl im).ok)(hn:next<18446744073709551616)(hd:d<16)(hr:r<16)(hv:validM ⟨18,a,c,z,wd,sh,d,r,dp,rl,im⟩=true):
  Calls Tryz.prog 12 #[.pointer (some ⟨bw,0,none⟩),(XI.mk 18 a c z wd sh d r dp rl im).agg, .int .u64 next,s.agg] wr fun e w'=>StepTo w0 wr N bw mb ds p RL (stepM ds W ⟨18,a,c,z,wd,sh,d,r,dp,rl,im⟩ next s) e w':=by
 have hz:=i64_wf hx.size
 have hk:=i64_wf hx.kind
 simp only at hz hk
 have HV:Hid (∀W',Fr No w0 W'→Calls Tryz.prog 33 #[(XI.mk 18 a c z wd sh d r dp rl im).agg] W' fun e w'=>e= .returned (.bool true)∧Fr No W' w'):=fun W' hW=>by rw [←hv];exact valid_any _ hz W' (hm.fr hW)
 have HE0:Hid (∀t1 t2 t3,_):=SwS.start h (x:=⟨18,a,c,z,wd,sh,d,r,dp,rl,im⟩) hs
 have HM:=Lib.hid hm
 have HN:=Lib.hid hn
 have HD:=Lib.hid hd
 have HR:=Lib.hid hr
 have hdp:=hx.disp
 have hrl:=hx.rel
 simp only at hdp hrl
 have ht0:(ST.mk s.r s.z s.s s.c s.o next).ok:=⟨hs.len,hs.lt,hn⟩
 have HTQ:Hid (touchM ⟨18,a,c,z,wd,sh,d,r,dp,rl,im⟩ s=(s.reg 4,8)):=by
  unfold touchM
  rw [if_neg (by rw [hv];simp)]
  exact Lib.hid rfl
 have HT:Hid (∀W',Fr No w0 W'→Calls Tryz.prog 34 #[(XI.mk 18 a c z wd sh d r dp rl im).agg,s.agg] W' fun e w'=>e= .returned (touV (s.reg 4,8))∧Fr No W' w'):=fun W' hW=>by rw [←HTQ.out];exact touch_any _ s W' hx hs (hm.fr hW)
 have HF:Hid (∀W',WM w0 N bw mb ds p RL W W'→SAt W' (wr.heap.size+1+1) (ST.mk s.r s.z s.s s.c s.o next)→Calls Tryz.prog 180 #[.pointer (some ⟨bw,0,none⟩),(XI.mk 18 a c z wd sh d r dp rl im).agg, .int .u64 (s.reg 4,8).1, .int .i64 (s.reg 4,8).2, .pointer (some ⟨wr.heap.size+1+1,0,none⟩)] W' fun e w'=>e= .returned (.int .i64 (mread W.m (s.reg 4) 8).2)∧TouTo w0 N bw mb ds p RL W (wr.heap.size+1+1) (((ST.mk s.r s.z s.s s.c s.o next).set 4 (farM (s.reg 4) 8)).set d (mread W.m (s.reg 4) 8).1) W' w'):=fun W' hW hS=>touches4_any hW 18 a c z wd sh d r dp rl im _ _ _ _ hS (by have:=h.bound;omega) (by first|exact farM_lt _ _|exact hs.reg _) hd hr
 have HQ:Hid (stepM ds W ⟨18,a,c,z,wd,sh,d,r,dp,rl,im⟩ next s=(exE (mread W.m (s.reg 4) 8).2 (((ST.mk s.r s.z s.s s.c s.o next).set 4 (farM (s.reg 4) 8)).set d (mread W.m (s.reg 4) 8).1),W)):=by
  unfold stepM
  rw [if_neg (by rw [hv];simp)]
  dsimp only
  rw [HTQ.out]
  exact Lib.hid rfl
 rw [HQ.out]
 clear HQ HTQ ht0 hm h hn hd hr hx hv
 generalize (mread W.m (s.reg 4) 8).2=E at*
 generalize hT2:(((ST.mk s.r s.z s.s s.c s.o next).set 4 (farM (s.reg 4) 8)).set d (mread W.m (s.reg 4) 8).1)=T2 at*
 clear hT2
 simp only [touV] at HT HF
 generalize (s.reg 4,8).1=A at*
 simp only [XI.agg,ST.agg] at*
 go_enter Tryz.func12,Tryz.ntmps12
 go_upto_region 1 with fail
 refine wp_world (fun W1=>Hid (SwS w0 wr N bw mb ds p RL W ⟨18,a,c,z,wd,sh,d,r,dp,rl,im⟩ s ST.zero W1)) (by exact HE0.out _ _ _) ?_
 intro W1 HL
 clear HE0
 obtain ⟨c0,c1,c2,c3,c4,c5,c6,c7,c8,c9,c10⟩:=XI.at HL.out.x
 go_upto_region 5 with (first
  |(go_at_call 10;(with_reducible refine (HL.out.wm.memory).mono ?_);rintro e w1 ⟨rfl,rfl⟩)
  |(go_at_call 33;(with_reducible refine (HV.out _ HL.out.wm.fr).mono ?_);rintro e w2 ⟨rfl,hf2⟩;replace HL:=Lib.hid (HL.out.no hf2);clear hf2)
)
 clear c0 c1 c2 c3 c4 c5 c6 c7 c8 c9 c10
 go_upto_region 6 with (first
  |(refine HL.out.st.load rfl (.tmp 7) rfl rfl ?_)
  |(refine HL.out.answer HL.out.st.ok rfl (.tmp 8) (.tmp 23) rfl rfl rfl ?_;intro W9 HL)
)
 have oo:=HL.out.res.open_
 have c20:=HL.out.res.at.2.2.2.2
 go_upto_region 7 with fail
 replace HL:=Lib.hid (HL.out.setPC HN.out)
 obtain ⟨W2,hW2⟩:∃W2,W2=W9.setCell ⟨wr.heap.size+1+1,20,none⟩ (.int .u64 next):=⟨_,rfl⟩
 rw [←hW2] at HL ⊢
 clear hW2 oo c20
 obtain ⟨c0,c1,c2,c3,c4,c5,c6,c7,c8,c9,c10⟩:=XI.at HL.out.x
 obtain ⟨bm,nm,hbm,hown⟩:=(HM.out.fr HL.out.wm.fr).touches
 have hlk:=touch_look2 hown hk
 rw [show touchF 18= .func (.func 180) #[] #[] from rfl] at hlk
 clear hown
 go_upto_region 9 with fail
 clear hlk hbm hk hz c0 c1 c2 c3 c4 c5 c6 c7 c8 c9 c10
 obtain ⟨c0,c1,c2,c3,c4,c5,c6,c7,c8,c9,c10⟩:=XI.at HL.out.x
 have fq:=fn_neq 180
 have fg:=fn_guard 180
 go_upto_region 18 with (first
  |(refine HL.out.st.load rfl (.tmp 7) rfl rfl ?_)
  |(go_at_call 34;(with_reducible refine (HT.out _ HL.out.wm.fr).mono ?_);rintro e w2 ⟨rfl,hf2⟩;replace HL:=Lib.hid (HL.out.no hf2);clear hf2;obtain ⟨c0,c1,c2,c3,c4,c5,c6,c7,c8,c9,c10⟩:=XI.at HL.out.x)
  |(go_at_call 180;(with_reducible refine (HF.out _ HL.out.wm HL.out.res).mono ?_);rintro e w3 ⟨rfl,ht3⟩;replace HL:=Lib.hid (HL.out.tou ht3);clear ht3)
)
 rcases Int.decEq E 0 with hE|hE
 ·have hE1:(E !=0)=true:=by rw [bne_iff_ne];exact hE
  go_wp2_with (first
  |(refine HL.out.answer ST.zero_ok rfl (.tmp 8) (.tmp 85) rfl rfl rfl ?_;intro W9 HL)
)
  exact bodyPost_ret (results_st2 Tryz.results12 _ _ _ ST.zero HL.out.res rfl) rfl ⟨by rw [show exE E T2= .error E from if_neg hE];rfl,HL.out.end_⟩
 ·have hE1:(E !=0)=false:=by rw [hE];rfl
  go_wp2_with (first
  |(refine HL.out.res.load rfl (.tmp 8) rfl rfl ?_)
  |(refine HL.out.answer HL.out.res.ok rfl (.tmp 8) (.tmp 87) rfl rfl rfl ?_;intro W9 HL)
)
  exact bodyPost_ret (results_st2 Tryz.results12 _ _ _ T2 HL.out.res rfl) rfl ⟨by rw [show exE E T2= .ok T2 from if_pos hE];rfl,HL.out.end_⟩
theorem step_19{w0 wr:World}{N bw mb:Nat}{ds:List MapD}{p:Nat}{RL:List Reg}{W:HW}(h:WM w0 N bw mb ds p RL W wr)(hm:MachAt w0)(a c z:Int)(wd sh:Bool)(d r:Nat)(dp rl im:Int)(next:Nat)(s:ST)(hs:s.ok)(hx:(XI.mk 19 a c z wd sh d r dp rl im).ok)(hn:next<18446744073709551616)(hd:d<16)(hr:r<16)(hv:validM ⟨19,a,c,z,wd,sh,d,r,dp,rl,im⟩=true):
  Calls Tryz.prog 12 #[.pointer (some ⟨bw,0,none⟩),(XI.mk 19 a c z wd sh d r dp rl im).agg, .int .u64 next,s.agg] wr fun e w'=>StepTo w0 wr N bw mb ds p RL (stepM ds W ⟨19,a,c,z,wd,sh,d,r,dp,rl,im⟩ next s) e w':=by
 have hz:=i64_wf hx.size
 have hk:=i64_wf hx.kind
 simp only at hz hk
 have HV:Hid (∀W',Fr No w0 W'→Calls Tryz.prog 33 #[(XI.mk 19 a c z wd sh d r dp rl im).agg] W' fun e w'=>e= .returned (.bool true)∧Fr No W' w'):=fun W' hW=>by rw [←hv];exact valid_any _ hz W' (hm.fr hW)
 have HE0:Hid (∀t1 t2 t3,_):=SwS.start h (x:=⟨19,a,c,z,wd,sh,d,r,dp,rl,im⟩) hs
 have HM:=Lib.hid hm
 have HN:=Lib.hid hn
 have HD:=Lib.hid hd
 have HR:=Lib.hid hr
 have hdp:=hx.disp
 have hrl:=hx.rel
 simp only at hdp hrl
 have ht0:(ST.mk s.r s.z s.s s.c s.o next).ok:=⟨hs.len,hs.lt,hn⟩
 have HTQ:Hid (touchM ⟨19,a,c,z,wd,sh,d,r,dp,rl,im⟩ s=(s.reg 4,8)):=by
  unfold touchM
  rw [if_neg (by rw [hv];simp)]
  exact Lib.hid rfl
 have HT:Hid (∀W',Fr No w0 W'→Calls Tryz.prog 34 #[(XI.mk 19 a c z wd sh d r dp rl im).agg,s.agg] W' fun e w'=>e= .returned (touV (s.reg 4,8))∧Fr No W' w'):=fun W' hW=>by rw [←HTQ.out];exact touch_any _ s W' hx hs (hm.fr hW)
 have HF:Hid (∀W',WM w0 N bw mb ds p RL W W'→SAt W' (wr.heap.size+1+1) (ST.mk s.r s.z s.s s.c s.o next)→Calls Tryz.prog 182 #[.pointer (some ⟨bw,0,none⟩),(XI.mk 19 a c z wd sh d r dp rl im).agg, .int .u64 (s.reg 4,8).1, .int .i64 (s.reg 4,8).2, .pointer (some ⟨wr.heap.size+1+1,0,none⟩)] W' fun e w'=>e= .returned (.int .i64 (mread W.m (s.reg 4) 8).2)∧TouTo w0 N bw mb ds p RL W (wr.heap.size+1+1) {((ST.mk s.r s.z s.s s.c s.o next).set 4 (farM (s.reg 4) 8)) with pc:=(mread W.m (s.reg 4) 8).1} W' w'):=fun W' hW hS=>touches5_any hW 19 a c z wd sh d r dp rl im _ _ _ _ hS (by have:=h.bound;omega) (by first|exact farM_lt _ _|exact hs.reg _) hd hr
 have HQ:Hid (stepM ds W ⟨19,a,c,z,wd,sh,d,r,dp,rl,im⟩ next s=(exE (mread W.m (s.reg 4) 8).2 {((ST.mk s.r s.z s.s s.c s.o next).set 4 (farM (s.reg 4) 8)) with pc:=(mread W.m (s.reg 4) 8).1},W)):=by
  unfold stepM
  rw [if_neg (by rw [hv];simp)]
  dsimp only
  rw [HTQ.out]
  exact Lib.hid rfl
 rw [HQ.out]
 clear HQ HTQ ht0 hm h hn hd hr hx hv
 generalize (mread W.m (s.reg 4) 8).2=E at*
 generalize hT2:{((ST.mk s.r s.z s.s s.c s.o next).set 4 (farM (s.reg 4) 8)) with pc:=(mread W.m (s.reg 4) 8).1}=T2 at*
 clear hT2
 simp only [touV] at HT HF
 generalize (s.reg 4,8).1=A at*
 simp only [XI.agg,ST.agg] at*
 go_enter Tryz.func12,Tryz.ntmps12
 go_upto_region 1 with fail
 refine wp_world (fun W1=>Hid (SwS w0 wr N bw mb ds p RL W ⟨19,a,c,z,wd,sh,d,r,dp,rl,im⟩ s ST.zero W1)) (by exact HE0.out _ _ _) ?_
 intro W1 HL
 clear HE0
 obtain ⟨c0,c1,c2,c3,c4,c5,c6,c7,c8,c9,c10⟩:=XI.at HL.out.x
 go_upto_region 5 with (first
  |(go_at_call 10;(with_reducible refine (HL.out.wm.memory).mono ?_);rintro e w1 ⟨rfl,rfl⟩)
  |(go_at_call 33;(with_reducible refine (HV.out _ HL.out.wm.fr).mono ?_);rintro e w2 ⟨rfl,hf2⟩;replace HL:=Lib.hid (HL.out.no hf2);clear hf2)
)
 clear c0 c1 c2 c3 c4 c5 c6 c7 c8 c9 c10
 go_upto_region 6 with (first
  |(refine HL.out.st.load rfl (.tmp 7) rfl rfl ?_)
  |(refine HL.out.answer HL.out.st.ok rfl (.tmp 8) (.tmp 23) rfl rfl rfl ?_;intro W9 HL)
)
 have oo:=HL.out.res.open_
 have c20:=HL.out.res.at.2.2.2.2
 go_upto_region 7 with fail
 replace HL:=Lib.hid (HL.out.setPC HN.out)
 obtain ⟨W2,hW2⟩:∃W2,W2=W9.setCell ⟨wr.heap.size+1+1,20,none⟩ (.int .u64 next):=⟨_,rfl⟩
 rw [←hW2] at HL ⊢
 clear hW2 oo c20
 obtain ⟨c0,c1,c2,c3,c4,c5,c6,c7,c8,c9,c10⟩:=XI.at HL.out.x
 obtain ⟨bm,nm,hbm,hown⟩:=(HM.out.fr HL.out.wm.fr).touches
 have hlk:=touch_look2 hown hk
 rw [show touchF 19= .func (.func 182) #[] #[] from rfl] at hlk
 clear hown
 go_upto_region 9 with fail
 clear hlk hbm hk hz c0 c1 c2 c3 c4 c5 c6 c7 c8 c9 c10
 obtain ⟨c0,c1,c2,c3,c4,c5,c6,c7,c8,c9,c10⟩:=XI.at HL.out.x
 have fq:=fn_neq 182
 have fg:=fn_guard 182
 go_upto_region 18 with (first
  |(refine HL.out.st.load rfl (.tmp 7) rfl rfl ?_)
  |(go_at_call 34;(with_reducible refine (HT.out _ HL.out.wm.fr).mono ?_);rintro e w2 ⟨rfl,hf2⟩;replace HL:=Lib.hid (HL.out.no hf2);clear hf2;obtain ⟨c0,c1,c2,c3,c4,c5,c6,c7,c8,c9,c10⟩:=XI.at HL.out.x)
  |(go_at_call 182;(with_reducible refine (HF.out _ HL.out.wm HL.out.res).mono ?_);rintro e w3 ⟨rfl,ht3⟩;replace HL:=Lib.hid (HL.out.tou ht3);clear ht3)
)
 rcases Int.decEq E 0 with hE|hE
 ·have hE1:(E !=0)=true:=by rw [bne_iff_ne];exact hE
  go_wp2_with (first
  |(refine HL.out.answer ST.zero_ok rfl (.tmp 8) (.tmp 85) rfl rfl rfl ?_;intro W9 HL)
)
  exact bodyPost_ret (results_st2 Tryz.results12 _ _ _ ST.zero HL.out.res rfl) rfl ⟨by rw [show exE E T2= .error E from if_neg hE];rfl,HL.out.end_⟩
 ·have hE1:(E !=0)=false:=by rw [hE];rfl
  go_wp2_with (first
  |(refine HL.out.res.load rfl (.tmp 8) rfl rfl ?_)
  |(refine HL.out.answer HL.out.res.ok rfl (.tmp 8) (.tmp 87) rfl rfl rfl ?_;intro W9 HL)
)
  exact bodyPost_ret (results_st2 Tryz.results12 _ _ _ T2 HL.out.res rfl) rfl ⟨by rw [show exE E T2= .ok T2 from if_pos hE];rfl,HL.out.end_⟩
end Go.Proofs.YtjcgmhlbkheadaaGreatDoor
namespace Go.Proofs.YtjcgmhlbkheadaaGreatDoor
open Go.RowKit
theorem arithM_ok{s:ST}(hs:s.ok)(wide:Bool)(alu:Int)(a b:Nat):(arithM s wide alu a b).1.ok:=⟨hs.len,hs.lt,hs.pc⟩
def GoodX(q:Except Int ST):Prop:=(∀t,q= .ok t→t.ok)∧∀e,q= .error e→e≠0
theorem GoodX.ok_{u:ST}(hu:u.ok):GoodX (.ok u):=⟨fun t ht=>by cases ht;exact hu,fun e he=>by cases he⟩
theorem GoodX.err{g:Int}(hg:g≠0):GoodX (.error g):=⟨fun t ht=>(by cases ht),fun e he=>by cases he;exact hg⟩
theorem GoodX.ite{p:Prop}[Decidable p]{a b:Except Int ST}(ha:GoodX a)(hb:GoodX b):GoodX (if p then a else b):=by split<;>assumption
theorem okIte{p:Prop}[Decidable p]{a b:ST}(ha:a.ok)(hb:b.ok):(if p then a else b).ok:=by split<;>assumption
theorem execM_ok(x:XI){s:ST}(hs:s.ok):GoodX (execM x s):=by
 have mov:∀{t:ST},t.ok→∀op a v,(t.set x.dst.toNat (doM op x.wide a v)).ok:=fun ht op a v=>ht.set _ (doM_u64 _ _ _ _)
 unfold execM
 refine GoodX.ite (GoodX.err (by decide)) ?_
 dsimp only
 refine GoodX.ite (GoodX.ok_ (mov hs _ _ _)) ?_
 refine GoodX.ite (GoodX.ok_ (mov hs _ _ _)) ?_
 refine GoodX.ite (GoodX.ok_ (okIte (arithM_ok hs _ _ _ _) (mov (arithM_ok hs _ _ _ _) _ _ _))) ?_
 refine GoodX.ite (GoodX.ok_ (arithM_ok hs _ _ _ _)) ?_
 refine GoodX.ite (GoodX.ok_ (mov (arithM_ok hs _ _ _ _) _ _ _)) ?_
 refine GoodX.ite (GoodX.ok_ (mov hs _ _ _)) ?_
 refine GoodX.ite (GoodX.ok_ ((hs.set _ (times_lt _ _ _).1).set _ (times_lt _ _ _).2)) ?_
 refine GoodX.ite ?_ ?_
 ·cases hp:partM x.wide (s.reg 2) (s.reg 0) (s.reg x.dst.toNat) with
  |none=>exact GoodX.err (by decide)
  |some q=>
   have h:=part_lt x.wide (u:=q.1) (v:=q.2) hp
   exact GoodX.ok_ ((hs.set _ h.1).set _ h.2)
 refine GoodX.ite (GoodX.ok_ (mov hs _ _ _)) ?_
 refine GoodX.ite (GoodX.ok_ (mov hs _ _ _)) ?_
 exact GoodX.ite (GoodX.ok_ hs) (GoodX.err (by decide))
end Go.Proofs.YtjcgmhlbkheadaaGreatDoor
