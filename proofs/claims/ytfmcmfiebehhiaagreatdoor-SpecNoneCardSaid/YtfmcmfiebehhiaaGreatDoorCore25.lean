/- package machine: far, Touch. (printed by mktouch.py) package machine: pop, what touches bytes. package machine: the functions of touches. (printed by mktw.py) package machine: call. -/
import Derived.Test.YtfmcmfiebehhiaaGreatDoorCore24
import Derived.Handy
set_option linter.all false
set_option linter.unusedVariables false
set_option linter.unusedSimpArgs false
set_option maxRecDepth 100000
set_option maxHeartbeats 2000000
namespace Go.Proofs.YtfmcmfiebehhiaaGreatDoor
open Go.Proofs.Tryz
open Go.RowKit
theorem far_wrap(f:Nat)(d:Int):IntKind.u64.wrap ((f:Int)+IntKind.u64.wrap d)=((farM f d:Nat):Int):=by
 rw [IntKind.wrap_u64,IntKind.wrap_u64]
 unfold farM
 omega
theorem far_any(f:Nat)(d:Int)(w:World)(hd: -2147483648≤d∧d≤2147483647):Calls prog 70 #[.int .u64 f, .int .i32 d] w fun e w'=>e= .returned (.int .u64 (farM f d))∧w=w':=by
 have HE:=Lib.hid (far_wrap f d)
 have e1:wrap64 d=d:=IntWalk.wrap64_in _ (by omega)
 have e2:IntKind.i64.wrap d=d:=IntWalk.i64_in _ (by omega)
 clear hd
 go_enter func70,ntmps70
 go_wp2_with fail
 go_ret
 exact ⟨congrArg (fun z=>Ending.returned (Value.int .u64 z)) HE.out,rfl⟩
structure TSt(w0:World)(b:Nat)(x:XI)(s:ST)(w:World):Prop where
 fr:Fr No w0 w
 x:XAt w b x
 st:SAt w (b+1) s
theorem TSt.no{w0 w w' b x s}(h:TSt w0 b x s w)(hf:Fr No w w'):TSt w0 b x s w':=⟨h.fr.trans hf,hf.cells h.x id,h.st.fr hf id⟩
theorem TSt.start{w:World}{x:XI}{s:ST}(hs:s.ok)(t1 t2):TSt w w.heap.size x s ((w.alloc (.cells x.cells.toArray t1)).alloc (.cells s.cells.toArray t2)):=by
 obtain ⟨W1,hW1⟩:∃W1,W1=w.alloc (.cells x.cells.toArray t1):=⟨_,rfl⟩
 have z1:W1.heap.size=w.heap.size+1:=by rw [hW1,size_alloc]
 have c1:CellsAt W1 w.heap.size 0 x.cells:=by rw [hW1];exact CellsAt.new w _ _
 have f1:Fr No w W1:=by rw [hW1];exact fr_alloc _ _
 rw [←hW1]
 exact ⟨f1.trans (fr_alloc _ _),(fr_alloc _ _).cells c1 id,by rw [←z1];exact SAt.new W1 hs _⟩
def touV(q:Nat×Int):Value:= .tuple #[.int .u64 q.1, .int .i64 q.2]
theorem touch_13(a c z:Int)(wd sh:Bool)(d r:Nat)(dp rl im:Int)(s:ST)(w:World)(hs:s.ok)(hm:MachAt w)(hx:(Lit.int .i64 z).wf=true)(hd:d<16)(hr:r<16)(hdp: -2147483648≤dp∧dp≤2147483647)(hv:validM ⟨13,a,c,z,wd,sh,d,r,dp,rl,im⟩=true):
  Calls prog 36 #[(XI.mk 13 a c z wd sh d r dp rl im).agg,s.agg] w fun e w'=>e= .returned (touV (touchM ⟨13,a,c,z,wd,sh,d,r,dp,rl,im⟩ s))∧Fr No w w':=by
 have HV:Hid (∀W,Fr No w W→Calls prog 69 #[(XI.mk 13 a c z wd sh d r dp rl im).agg] W fun e w'=>e= .returned (.bool true)∧Fr No W w'):=fun W hW=>by rw [←hv];exact valid_any _ hx W (hm.fr hW)
 have HE0:Hid (∀t1 t2,_):=TSt.start (w:=w) (x:=⟨13,a,c,z,wd,sh,d,r,dp,rl,im⟩) hs
 have HQ:Hid (touchM ⟨13,a,c,z,wd,sh,d,r,dp,rl,im⟩ s=(farM (s.reg r) dp,z)):=by
  unfold touchM
  rw [if_neg (by rw [hv];simp)]
  exact Lib.hid rfl
 rw [HQ.out]
 clear hm hv
 simp only [XI.agg,ST.agg,touV] at*
 go_enter func36,ntmps36
 go_upto_region 1 with fail
 refine wp_world (fun W1=>Hid (TSt w w.heap.size ⟨13,a,c,z,wd,sh,d,r,dp,rl,im⟩ s W1)) (by exact HE0.out _ _) ?_
 intro W1 HL
 clear HE0
 obtain ⟨c0,c1,c2,c3,c4,c5,c6,c7,c8,c9,c10⟩:=XI.at HL.out.x
 go_upto_region 3 with (go_at_call 69;(with_reducible refine (HV.out _ HL.out.fr).mono ?_);rintro e w2 ⟨rfl,hf2⟩;replace HL:=Lib.hid (HL.out.no hf2);clear hf2)
 clear c0 c1 c2 c3 c4 c5 c6 c7 c8 c9 c10
 obtain ⟨c0,c1,c2,c3,c4,c5,c6,c7,c8,c9,c10⟩:=XI.at HL.out.x
 obtain ⟨A,hA⟩:∃A,s.reg r=A:=⟨_,rfl⟩
 have HF:Hid (∀W,Calls prog 70 #[.int .u64 A, .int .i32 dp] W fun e w'=>e= .returned (.int .u64 (farM A dp))∧W=w'):=fun W=>far_any A dp W hdp
 have rg:=HL.out.st.reg hr
 rw [hA] at rg
 have d1:(0:Int)≤(r:Int):=by omega
 have d2:(r:Int)<16:=by omega
 go_upto_region 5 with fail
 have H0:w2.drew.cell? ⟨w.heap.size,3,none⟩=some (Value.int .i64 z)∧w2.drew.cell? ⟨w.heap.size,6,none⟩=some (Value.int .i64 d)∧w2.drew.cell? ⟨w.heap.size,7,none⟩=some (Value.int .i64 r)∧w2.drew.cell? ⟨w.heap.size,8,none⟩=some (Value.int .i32 dp)∧w2.drew.cell? ⟨w.heap.size+1,r,none⟩=some (Value.int .u64 A):=⟨c3,c6,c7,c8,rg⟩
 go_region_held3 (fun W=>W.cell? ⟨w.heap.size,3,none⟩=some (Value.int .i64 z)∧W.cell? ⟨w.heap.size,6,none⟩=some (Value.int .i64 d)∧W.cell? ⟨w.heap.size,7,none⟩=some (Value.int .i64 r)∧W.cell? ⟨w.heap.size,8,none⟩=some (Value.int .i32 dp)∧W.cell? ⟨w.heap.size+1,r,none⟩=some (Value.int .u64 A)) (first|assumption|go_keep) (first|(go_at_call 70;(with_reducible refine (HF.out _).mono ?_);rintro e w5 ⟨rfl,rfl⟩))
 go_wp2_with fail
 go_ret2
 exact ⟨by rw [hA];rfl,HL.out.fr.drew⟩
theorem touch_14(a c z:Int)(wd sh:Bool)(d r:Nat)(dp rl im:Int)(s:ST)(w:World)(hs:s.ok)(hm:MachAt w)(hx:(Lit.int .i64 z).wf=true)(hd:d<16)(hr:r<16)(hdp: -2147483648≤dp∧dp≤2147483647)(hv:validM ⟨14,a,c,z,wd,sh,d,r,dp,rl,im⟩=true):
  Calls prog 36 #[(XI.mk 14 a c z wd sh d r dp rl im).agg,s.agg] w fun e w'=>e= .returned (touV (touchM ⟨14,a,c,z,wd,sh,d,r,dp,rl,im⟩ s))∧Fr No w w':=by
 have HV:Hid (∀W,Fr No w W→Calls prog 69 #[(XI.mk 14 a c z wd sh d r dp rl im).agg] W fun e w'=>e= .returned (.bool true)∧Fr No W w'):=fun W hW=>by rw [←hv];exact valid_any _ hx W (hm.fr hW)
 have HE0:Hid (∀t1 t2,_):=TSt.start (w:=w) (x:=⟨14,a,c,z,wd,sh,d,r,dp,rl,im⟩) hs
 have HQ:Hid (touchM ⟨14,a,c,z,wd,sh,d,r,dp,rl,im⟩ s=(farM (s.reg d) dp,z)):=by
  unfold touchM
  rw [if_neg (by rw [hv];simp)]
  exact Lib.hid rfl
 rw [HQ.out]
 clear hm hv
 simp only [XI.agg,ST.agg,touV] at*
 go_enter func36,ntmps36
 go_upto_region 1 with fail
 refine wp_world (fun W1=>Hid (TSt w w.heap.size ⟨14,a,c,z,wd,sh,d,r,dp,rl,im⟩ s W1)) (by exact HE0.out _ _) ?_
 intro W1 HL
 clear HE0
 obtain ⟨c0,c1,c2,c3,c4,c5,c6,c7,c8,c9,c10⟩:=XI.at HL.out.x
 go_upto_region 3 with (go_at_call 69;(with_reducible refine (HV.out _ HL.out.fr).mono ?_);rintro e w2 ⟨rfl,hf2⟩;replace HL:=Lib.hid (HL.out.no hf2);clear hf2)
 clear c0 c1 c2 c3 c4 c5 c6 c7 c8 c9 c10
 obtain ⟨c0,c1,c2,c3,c4,c5,c6,c7,c8,c9,c10⟩:=XI.at HL.out.x
 obtain ⟨A,hA⟩:∃A,s.reg d=A:=⟨_,rfl⟩
 have HF:Hid (∀W,Calls prog 70 #[.int .u64 A, .int .i32 dp] W fun e w'=>e= .returned (.int .u64 (farM A dp))∧W=w'):=fun W=>far_any A dp W hdp
 have rg:=HL.out.st.reg hd
 rw [hA] at rg
 have d1:(0:Int)≤(d:Int):=by omega
 have d2:(d:Int)<16:=by omega
 go_upto_region 7 with fail
 have H0:w2.drew.cell? ⟨w.heap.size,3,none⟩=some (Value.int .i64 z)∧w2.drew.cell? ⟨w.heap.size,6,none⟩=some (Value.int .i64 d)∧w2.drew.cell? ⟨w.heap.size,7,none⟩=some (Value.int .i64 r)∧w2.drew.cell? ⟨w.heap.size,8,none⟩=some (Value.int .i32 dp)∧w2.drew.cell? ⟨w.heap.size+1,d,none⟩=some (Value.int .u64 A):=⟨c3,c6,c7,c8,rg⟩
 go_region_held3 (fun W=>W.cell? ⟨w.heap.size,3,none⟩=some (Value.int .i64 z)∧W.cell? ⟨w.heap.size,6,none⟩=some (Value.int .i64 d)∧W.cell? ⟨w.heap.size,7,none⟩=some (Value.int .i64 r)∧W.cell? ⟨w.heap.size,8,none⟩=some (Value.int .i32 dp)∧W.cell? ⟨w.heap.size+1,d,none⟩=some (Value.int .u64 A)) (first|assumption|go_keep) (first|(go_at_call 70;(with_reducible refine (HF.out _).mono ?_);rintro e w5 ⟨rfl,rfl⟩))
 go_wp2_with fail
 go_ret2
 exact ⟨by rw [hA];rfl,HL.out.fr.drew⟩
theorem touch_17(a c z:Int)(wd sh:Bool)(d r:Nat)(dp rl im:Int)(s:ST)(w:World)(hs:s.ok)(hm:MachAt w)(hx:(Lit.int .i64 z).wf=true)(hd:d<16)(hr:r<16)(hdp: -2147483648≤dp∧dp≤2147483647)(hv:validM ⟨17,a,c,z,wd,sh,d,r,dp,rl,im⟩=true):
  Calls prog 36 #[(XI.mk 17 a c z wd sh d r dp rl im).agg,s.agg] w fun e w'=>e= .returned (touV (touchM ⟨17,a,c,z,wd,sh,d,r,dp,rl,im⟩ s))∧Fr No w w':=by
 have HV:Hid (∀W,Fr No w W→Calls prog 69 #[(XI.mk 17 a c z wd sh d r dp rl im).agg] W fun e w'=>e= .returned (.bool true)∧Fr No W w'):=fun W hW=>by rw [←hv];exact valid_any _ hx W (hm.fr hW)
 have HE0:Hid (∀t1 t2,_):=TSt.start (w:=w) (x:=⟨17,a,c,z,wd,sh,d,r,dp,rl,im⟩) hs
 have HQ:Hid (touchM ⟨17,a,c,z,wd,sh,d,r,dp,rl,im⟩ s=(farM (s.reg 4) (-8),8)):=by
  unfold touchM
  rw [if_neg (by rw [hv];simp)]
  exact Lib.hid rfl
 rw [HQ.out]
 clear hm hv
 simp only [XI.agg,ST.agg,touV] at*
 go_enter func36,ntmps36
 go_upto_region 1 with fail
 refine wp_world (fun W1=>Hid (TSt w w.heap.size ⟨17,a,c,z,wd,sh,d,r,dp,rl,im⟩ s W1)) (by exact HE0.out _ _) ?_
 intro W1 HL
 clear HE0
 obtain ⟨c0,c1,c2,c3,c4,c5,c6,c7,c8,c9,c10⟩:=XI.at HL.out.x
 go_upto_region 3 with (go_at_call 69;(with_reducible refine (HV.out _ HL.out.fr).mono ?_);rintro e w2 ⟨rfl,hf2⟩;replace HL:=Lib.hid (HL.out.no hf2);clear hf2)
 clear c0 c1 c2 c3 c4 c5 c6 c7 c8 c9 c10
 obtain ⟨c0,c1,c2,c3,c4,c5,c6,c7,c8,c9,c10⟩:=XI.at HL.out.x
 have rg:=HL.out.st.reg (i:=4) (by decide)
 have e8:IntKind.u64.wrap ((s.reg 4:Int)-8)=((farM (s.reg 4) (-8):Nat):Int):=by rw [IntKind.wrap_u64];unfold farM;omega
 go_wp2_with fail
 go_ret2
 exact ⟨rfl,HL.out.fr⟩
theorem touch_18(a c z:Int)(wd sh:Bool)(d r:Nat)(dp rl im:Int)(s:ST)(w:World)(hs:s.ok)(hm:MachAt w)(hx:(Lit.int .i64 z).wf=true)(hd:d<16)(hr:r<16)(hdp: -2147483648≤dp∧dp≤2147483647)(hv:validM ⟨18,a,c,z,wd,sh,d,r,dp,rl,im⟩=true):
  Calls prog 36 #[(XI.mk 18 a c z wd sh d r dp rl im).agg,s.agg] w fun e w'=>e= .returned (touV (touchM ⟨18,a,c,z,wd,sh,d,r,dp,rl,im⟩ s))∧Fr No w w':=by
 have HV:Hid (∀W,Fr No w W→Calls prog 69 #[(XI.mk 18 a c z wd sh d r dp rl im).agg] W fun e w'=>e= .returned (.bool true)∧Fr No W w'):=fun W hW=>by rw [←hv];exact valid_any _ hx W (hm.fr hW)
 have HE0:Hid (∀t1 t2,_):=TSt.start (w:=w) (x:=⟨18,a,c,z,wd,sh,d,r,dp,rl,im⟩) hs
 have HQ:Hid (touchM ⟨18,a,c,z,wd,sh,d,r,dp,rl,im⟩ s=(s.reg 4,8)):=by
  unfold touchM
  rw [if_neg (by rw [hv];simp)]
  exact Lib.hid rfl
 rw [HQ.out]
 clear hm hv
 simp only [XI.agg,ST.agg,touV] at*
 go_enter func36,ntmps36
 go_upto_region 1 with fail
 refine wp_world (fun W1=>Hid (TSt w w.heap.size ⟨18,a,c,z,wd,sh,d,r,dp,rl,im⟩ s W1)) (by exact HE0.out _ _) ?_
 intro W1 HL
 clear HE0
 obtain ⟨c0,c1,c2,c3,c4,c5,c6,c7,c8,c9,c10⟩:=XI.at HL.out.x
 go_upto_region 3 with (go_at_call 69;(with_reducible refine (HV.out _ HL.out.fr).mono ?_);rintro e w2 ⟨rfl,hf2⟩;replace HL:=Lib.hid (HL.out.no hf2);clear hf2)
 clear c0 c1 c2 c3 c4 c5 c6 c7 c8 c9 c10
 obtain ⟨c0,c1,c2,c3,c4,c5,c6,c7,c8,c9,c10⟩:=XI.at HL.out.x
 have rg:=HL.out.st.reg (i:=4) (by decide)
 go_wp2_with fail
 go_ret2
 exact ⟨rfl,HL.out.fr⟩
theorem touch_19(a c z:Int)(wd sh:Bool)(d r:Nat)(dp rl im:Int)(s:ST)(w:World)(hs:s.ok)(hm:MachAt w)(hx:(Lit.int .i64 z).wf=true)(hd:d<16)(hr:r<16)(hdp: -2147483648≤dp∧dp≤2147483647)(hv:validM ⟨19,a,c,z,wd,sh,d,r,dp,rl,im⟩=true):
  Calls prog 36 #[(XI.mk 19 a c z wd sh d r dp rl im).agg,s.agg] w fun e w'=>e= .returned (touV (touchM ⟨19,a,c,z,wd,sh,d,r,dp,rl,im⟩ s))∧Fr No w w':=by
 have HV:Hid (∀W,Fr No w W→Calls prog 69 #[(XI.mk 19 a c z wd sh d r dp rl im).agg] W fun e w'=>e= .returned (.bool true)∧Fr No W w'):=fun W hW=>by rw [←hv];exact valid_any _ hx W (hm.fr hW)
 have HE0:Hid (∀t1 t2,_):=TSt.start (w:=w) (x:=⟨19,a,c,z,wd,sh,d,r,dp,rl,im⟩) hs
 have HQ:Hid (touchM ⟨19,a,c,z,wd,sh,d,r,dp,rl,im⟩ s=(s.reg 4,8)):=by
  unfold touchM
  rw [if_neg (by rw [hv];simp)]
  exact Lib.hid rfl
 rw [HQ.out]
 clear hm hv
 simp only [XI.agg,ST.agg,touV] at*
 go_enter func36,ntmps36
 go_upto_region 1 with fail
 refine wp_world (fun W1=>Hid (TSt w w.heap.size ⟨19,a,c,z,wd,sh,d,r,dp,rl,im⟩ s W1)) (by exact HE0.out _ _) ?_
 intro W1 HL
 clear HE0
 obtain ⟨c0,c1,c2,c3,c4,c5,c6,c7,c8,c9,c10⟩:=XI.at HL.out.x
 go_upto_region 3 with (go_at_call 69;(with_reducible refine (HV.out _ HL.out.fr).mono ?_);rintro e w2 ⟨rfl,hf2⟩;replace HL:=Lib.hid (HL.out.no hf2);clear hf2)
 clear c0 c1 c2 c3 c4 c5 c6 c7 c8 c9 c10
 obtain ⟨c0,c1,c2,c3,c4,c5,c6,c7,c8,c9,c10⟩:=XI.at HL.out.x
 have rg:=HL.out.st.reg (i:=4) (by decide)
 go_wp2_with fail
 go_ret2
 exact ⟨rfl,HL.out.fr⟩
theorem touch_else(k a c z:Int)(wd sh:Bool)(d r:Nat)(dp rl im:Int)(s:ST)(w:World)(hs:s.ok)(hm:MachAt w)(hx:(Lit.int .i64 z).wf=true)(hd:d<16)(hr:r<16)(hdp: -2147483648≤dp∧dp≤2147483647)(k13:k≠13)(k14:k≠14)(k17:k≠17)(k18:k≠18)(k19:k≠19)(hv:validM ⟨k,a,c,z,wd,sh,d,r,dp,rl,im⟩=true):
  Calls prog 36 #[(XI.mk k a c z wd sh d r dp rl im).agg,s.agg] w fun e w'=>e= .returned (touV (touchM ⟨k,a,c,z,wd,sh,d,r,dp,rl,im⟩ s))∧Fr No w w':=by
 have HV:Hid (∀W,Fr No w W→Calls prog 69 #[(XI.mk k a c z wd sh d r dp rl im).agg] W fun e w'=>e= .returned (.bool true)∧Fr No W w'):=fun W hW=>by rw [←hv];exact valid_any _ hx W (hm.fr hW)
 have HE0:Hid (∀t1 t2,_):=TSt.start (w:=w) (x:=⟨k,a,c,z,wd,sh,d,r,dp,rl,im⟩) hs
 have HQ:Hid (touchM ⟨k,a,c,z,wd,sh,d,r,dp,rl,im⟩ s=(0,0)):=by
  unfold touchM
  rw [if_neg (by rw [hv];simp)]
  simp only [k13,k14,k17,k18,k19,if_false,or_self]
  exact Lib.hid trivial
 rw [HQ.out]
 clear hm hv
 simp only [XI.agg,ST.agg,touV] at*
 go_enter func36,ntmps36
 go_upto_region 1 with fail
 refine wp_world (fun W1=>Hid (TSt w w.heap.size ⟨k,a,c,z,wd,sh,d,r,dp,rl,im⟩ s W1)) (by exact HE0.out _ _) ?_
 intro W1 HL
 clear HE0
 obtain ⟨c0,c1,c2,c3,c4,c5,c6,c7,c8,c9,c10⟩:=XI.at HL.out.x
 go_upto_region 3 with (go_at_call 69;(with_reducible refine (HV.out _ HL.out.fr).mono ?_);rintro e w2 ⟨rfl,hf2⟩;replace HL:=Lib.hid (HL.out.no hf2);clear hf2)
 clear c0 c1 c2 c3 c4 c5 c6 c7 c8 c9 c10
 obtain ⟨c0,c1,c2,c3,c4,c5,c6,c7,c8,c9,c10⟩:=XI.at HL.out.x
 have e13:(k==13)=false:=by rw [beq_eq_false_iff_ne];exact k13
 have e14:(k==14)=false:=by rw [beq_eq_false_iff_ne];exact k14
 have e17:(k==17)=false:=by rw [beq_eq_false_iff_ne];exact k17
 have e18:(k==18)=false:=by rw [beq_eq_false_iff_ne];exact k18
 have e19:(k==19)=false:=by rw [beq_eq_false_iff_ne];exact k19
 clear k13 k14 k17 k18 k19
 go_wp2_with fail
 go_ret2
 exact ⟨rfl,HL.out.fr⟩
theorem touch_not(x:XI)(s:ST)(w:World)(hs:s.ok)(hm:MachAt w)(hx:(Lit.int .i64 x.size).wf=true)(hv:validM x=false):
  Calls prog 36 #[x.agg,s.agg] w fun e w'=>e= .returned (touV (0,0))∧Fr No w w':=by
 have HV:Hid (∀W,Fr No w W→Calls prog 69 #[x.agg] W fun e w'=>e= .returned (.bool false)∧Fr No W w'):=fun W hW=>by rw [←hv];exact valid_any x hx W (hm.fr hW)
 have HE0:Hid (∀t1 t2,_):=TSt.start (w:=w) (x:=x) hs
 clear hm hv
 obtain ⟨k,a,c,z,wd,sh,d,r,dp,rl,im⟩:=x
 simp only [XI.agg,ST.agg,touV] at*
 go_enter func36,ntmps36
 go_upto_region 1 with fail
 refine wp_world (fun W1=>Hid (TSt w w.heap.size ⟨k,a,c,z,wd,sh,d,r,dp,rl,im⟩ s W1)) (by exact HE0.out _ _) ?_
 intro W1 HL
 clear HE0
 obtain ⟨c0,c1,c2,c3,c4,c5,c6,c7,c8,c9,c10⟩:=XI.at HL.out.x
 go_wp2_with (go_at_call 69;(with_reducible refine (HV.out _ HL.out.fr).mono ?_);rintro e w2 ⟨rfl,hf2⟩;replace HL:=Lib.hid (HL.out.no hf2);clear hf2)
 go_ret2
 exact ⟨rfl,HL.out.fr⟩
theorem touch_any(x:XI)(s:ST)(w)(hx:x.ok)(hs:s.ok)(hm:MachAt w):
  Calls prog 36 #[x.agg,s.agg] w fun e w'=>e= .returned (touV (touchM x s))∧Fr No w w':=by
 cases hv:validM x with
 |false=>
  rw [show touchM x s=(0,0) by unfold touchM;rw [if_pos hv]]
  exact touch_not x s w hs hm (i64_wf hx.size) hv
 |true=>
  obtain ⟨k,hk1,hk2,hk,hmx⟩:=valid_may hv
  obtain ⟨d,r,hd,hr,ed,er⟩:=hmx.regs
  have wz:=i64_wf hx.size
  have hdp:=hx.disp
  clear hmx hx
  obtain ⟨kk,a,c,z,wd,sh,dd,rr,dp,rl,im⟩:=x
  simp only at hk ed er wz hdp
  subst ed er
  by_cases k13:kk=13
  ·subst k13;exact touch_13 a c z wd sh d r dp rl im s w hs hm wz hd hr hdp hv
  by_cases k14:kk=14
  ·subst k14;exact touch_14 a c z wd sh d r dp rl im s w hs hm wz hd hr hdp hv
  by_cases k17:kk=17
  ·subst k17;exact touch_17 a c z wd sh d r dp rl im s w hs hm wz hd hr hdp hv
  by_cases k18:kk=18
  ·subst k18;exact touch_18 a c z wd sh d r dp rl im s w hs hm wz hd hr hdp hv
  by_cases k19:kk=19
  ·subst k19;exact touch_19 a c z wd sh d r dp rl im s w hs hm wz hd hr hdp hv
  exact touch_else kk a c z wd sh d r dp rl im s w hs hm wz hd hr hdp k13 k14 k17 k18 k19 hv
theorem mread_lt(m:List Reg)(addr:Nat)(n:Int):(mread m addr n).1<18446744073709551616:=by
 unfold mread
 split
 ·rename_i hn
  have h8:=(sizeOk_iff n).1 hn
  refine Nat.lt_of_lt_of_le (leNum_lt _) ?_
  refine Nat.le_trans (Nat.pow_le_pow_right (by decide) (show _≤8 from ?_)) (by decide)
  unfold mtext
  split
  ·simp
  ·split
   ·simp
   ·split
    ·simp
    ·rename_i i _
     cases m[i]? with
     |none=>simp
     |some r=>
      simp only [Option.map_some,Option.getD_some,Reg.cut,List.length_take]
      omega
 ·decide
def TouTo(w0:World)(N:Nat)(bw mb:Nat)(ds:List MapD)(p:Nat)(RL:RQ)(W:HW)(g:Nat)(s:ST)(wr w':World):Prop:=
 Hid (WM w0 N bw mb ds p RL W w')∧Hid (SAt w' g s)∧Hid (Fr (fun k=>Zof w0 N RL k∨k=g) wr w')
theorem pop_any{w0 wr:World}{N:Nat}{bw mb p:Nat}{ds:List MapD}{RL:RQ}{W:HW}(h:WM w0 N bw mb ds p RL W wr)(addr g:Nat)(s:ST)(hs:SAt wr g s)(hg:N≤g)(ha:addr<18446744073709551616):
  Calls prog 197 #[.pointer (some ⟨bw,0,none⟩), .int .u64 addr, .pointer (some ⟨g,0,none⟩)] wr fun e w'=>e= .returned (.tuple #[.int .u64 (mread W.m addr 8).1, .int .i64 (mread W.m addr 8).2])∧TouTo w0 N bw mb ds p RL W g (s.set 4 (farM (s.reg 4) 8)) wr w':=by
 have HM:=Lib.hid h.memory
 have HR:=Lib.hid (h.read addr 8 ha)
 have HW:=Lib.hid h
 have HS:=Lib.hid hs
 have e8:IntKind.u64.wrap ((s.reg 4:Int)+8)=((farM (s.reg 4) 8:Nat):Int):=by rw [IntKind.wrap_u64];unfold farM;omega
 have HE:Hid (∀W',SAt W' g s→SAt (W'.setCell ⟨g,4,none⟩ (.int .u64 (farM (s.reg 4) 8))) g (s.set 4 (farM (s.reg 4) 8))):=fun W' h=>h.setReg (by decide) (farM_lt _ _)
 have HG:=Lib.hid hg
 clear h hs ha hg
 generalize (mread W.m addr 8).1=V at*
 generalize (mread W.m addr 8).2=E at*
 generalize farM (s.reg 4) 8=F at*
 go_enter func197,ntmps197
 go_wp2_with (first
  |(go_at_call 13;(with_reducible refine (HM.out).mono ?_);rintro e w1 ⟨rfl,rfl⟩)
  |(go_at_call 193;(with_reducible refine (HR.out).mono ?_);rintro e w2 ⟨rfl,hf2⟩;have rg:=(HS.out.fr hf2 id).reg (i:=4) (by decide);have oo:=(HS.out.fr hf2 id).open_))
 go_region
 go_wp2_with fail
 go_ret2
 have hf2':=hf2
 refine ⟨rfl,?_,?_,?_⟩
 ·exact ((HW.out.to hf2).beside (((Fr.refl (fun k=>k=g) w2)).setCell (p:=⟨g,4,none⟩) (.inr rfl) _) (fun k hk=>by rw [hk];exact HG.out)).to ((Fr.refl _ _).drew)
 ·exact (HE.out _ (HS.out.fr hf2 id)).fr (T:=No) ((Fr.refl _ _).drew) id
 ·exact (((hf2.any:Fr (fun k=>Zof w0 N RL k∨k=g) wr w2)).setCell (p:=⟨g,4,none⟩) (.inr (.inr rfl)) _).drew
structure TwS(w0 wr:World)(N bw mb:Nat)(ds:List MapD)(p:Nat)(RL:RQ)(W:HW)(g:Nat)(b:Nat)(x:XI)(s:ST)(w:World):Prop where
 wm:WM w0 N bw mb ds p RL W w
 st:SAt w g s
 x:XAt w b x
 fr:Fr (fun k=>Zof w0 N RL k∨k=g) wr w
 lg:N≤g
 lb:g<b
theorem TwS.start{w0 wr:World}{N bw mb ds p RL W g s}(h:WM w0 N bw mb ds p RL W wr)(hs:SAt wr g s)(hg:N≤g)(x:XI)(t):TwS w0 wr N bw mb ds p RL W g wr.heap.size x s (wr.alloc (.cells x.cells.toArray t)):=
 ⟨h.to (fr_alloc _ _),hs.fr (fr_alloc wr _) (T:=No) id,CellsAt.new wr _ _,(fr_alloc wr _).any,hg,hs.lt⟩
theorem TwS.no{w0 wr w w' N bw mb ds p RL W g b x s}(h:TwS w0 wr N bw mb ds p RL W g b x s w)(hf:Fr No w w'):TwS w0 wr N bw mb ds p RL W g b x s w':=
 ⟨h.wm.to hf,h.st.fr hf id,hf.cells h.x id,h.fr.trans hf.any,h.lg,h.lb⟩
theorem TwS.drew{w0 wr w:World}{N bw mb ds p RL W g b x s}(h:TwS w0 wr N bw mb ds p RL W g b x s w):TwS w0 wr N bw mb ds p RL W g b x s w.drew:=h.no (Fr.refl No w).drew
theorem TwS.turn{w0 wr w w' N bw mb ds p RL W W' g b x s}(h:TwS w0 wr N bw mb ds p RL W g b x s w)(hm:WM w0 N bw mb ds p RL W' w')(hf:Fr (Zof w0 N RL) w w'):TwS w0 wr N bw mb ds p RL W' g b x s w':=
 ⟨hm,h.st.fr hf (fun hz=>by have:=hz.2;have:=h.lg;omega),hf.cells h.x (fun hz=>by have:=hz.2;have:=h.lg;have:=h.lb;omega),h.fr.trans (hf.mono fun _ _ hk=> .inl hk),h.lg,h.lb⟩
theorem TwS.box{w0 wr w w' N bw mb ds p RL W g b x s s'}(h:TwS w0 wr N bw mb ds p RL W g b x s w)(hs:SAt w' g s')(hf:Fr (fun k=>k=g) w w'):TwS w0 wr N bw mb ds p RL W g b x s' w':=
 ⟨h.wm.beside hf (fun k hk=>by rw [hk];exact h.lg),hs,hf.cells h.x (fun hz=>by have:=h.lb;omega),h.fr.trans (hf.mono fun _ _ hk=> .inr hk),h.lg,h.lb⟩
theorem TwS.setReg{w0 wr w:World}{N bw mb ds p RL W g b x}{s:ST}(h:TwS w0 wr N bw mb ds p RL W g b x s w){i}(hi:i<16){v}(hv:v<18446744073709551616):TwS w0 wr N bw mb ds p RL W g b x (s.set i v) (w.setCell ⟨g,i,none⟩ (.int .u64 v)):=
 h.box (h.st.setReg hi hv) ((Fr.refl (fun k=>k=g) w).setCell (p:=⟨g,i,none⟩) (.inr rfl) _)
theorem TwS.setPC{w0 wr w:World}{N bw mb ds p RL W g b x s}(h:TwS w0 wr N bw mb ds p RL W g b x s w){v}(hv:v<18446744073709551616):TwS w0 wr N bw mb ds p RL W g b x {s with pc:=v} (w.setCell ⟨g,20,none⟩ (.int .u64 v)):=
 h.box (h.st.setPC hv) ((Fr.refl (fun k=>k=g) w).setCell (p:=⟨g,20,none⟩) (.inr rfl) _)
theorem TwS.to_{w0 wr w w' N bw mb ds p RL W W' g b x s s'}(h:TwS w0 wr N bw mb ds p RL W g b x s w)(ht:TouTo w0 N bw mb ds p RL W' g s' w w'):TwS w0 wr N bw mb ds p RL W' g b x s' w':=
 ⟨ht.1.out,ht.2.1.out,ht.2.2.out.cells h.x (fun hz=>by have:=h.lg;have:=h.lb;rcases hz with hz|hz;(·have:=hz.2;omega);omega),h.fr.trans ht.2.2.out,h.lg,h.lb⟩
theorem TwS.end_{w0 wr w N bw mb ds p RL W g b x s}(h:TwS w0 wr N bw mb ds p RL W g b x s w):TouTo w0 N bw mb ds p RL W g s wr w:=⟨h.wm,h.st,h.fr⟩
theorem touches1_any{w0 wr:World}{N bw mb p ds RL}{W:HW}(h:WM w0 N bw mb ds p RL W wr)(k a c z:Int)(wd sh:Bool)(d r:Nat)(dp rl im:Int)(addr:Nat)(n:Int)(g:Nat)(s:ST)(hs:SAt wr g s)(hg:N≤g)(ha:addr<18446744073709551616)(hd:d<16)(hr:r<16):
  Calls prog 192 #[.pointer (some ⟨bw,0,none⟩),(XI.mk k a c z wd sh d r dp rl im).agg, .int .u64 addr, .int .i64 n, .pointer (some ⟨g,0,none⟩)] wr fun e w'=>e= .returned (.int .i64 (mread W.m addr n).2)∧TouTo w0 N bw mb ds p RL W g (s.set d (mread W.m addr n).1) wr w':=by
 have HST:Hid (∀t,_):=TwS.start h hs hg ⟨k,a,c,z,wd,sh,d,r,dp,rl,im⟩
 simp only [XI.agg]
 have HM:Hid (∀W',WM w0 N bw mb ds p RL W W'→_):=fun W' hW=>WM.memory hW
 have HR:Hid (∀W',WM w0 N bw mb ds p RL W W'→_):=fun W' hW=>WM.read hW addr n ha
 have HV:=Lib.hid (mread_lt W.m addr n)
 have HD:=Lib.hid hd
 have d1:(0:Int)≤(d:Int):=by omega
 have d2:(d:Int)<16:=by omega
 clear h hs ha hd hr hg
 generalize (mread W.m addr n).1=V at*
 generalize (mread W.m addr n).2=E at*
 go_enter func192,ntmps192
 go_upto_region 1 with fail
 refine wp_world (fun W1=>Hid (TwS w0 wr N bw mb ds p RL W g wr.heap.size ⟨k,a,c,z,wd,sh,d,r,dp,rl,im⟩ s W1)) (by exact HST.out _) ?_
 intro W1 HL
 clear HST
 obtain ⟨c0,c1,c2,c3,c4,c5,c6,c7,c8,c9,c10⟩:=XI.at HL.out.x
 clear c0 c1 c2 c3 c4 c5 c8 c9 c10
 have rg:=HL.out.st.reg HD.out
 have oo:=HL.out.st.open_
 go_region_with (first
  |(go_at_call 13;(with_reducible refine (HM.out _ HL.out.drew.wm).mono ?_);rintro e w1 ⟨rfl,rfl⟩)
  |(go_at_call 193;(with_reducible refine (HR.out _ HL.out.drew.wm).mono ?_);rintro e w2 ⟨rfl,hf2⟩;have c6':=(XI.at (HL.out.drew.no hf2).x).2.2.2.2.2.2.1;have rg':=(HL.out.drew.no hf2).st.reg HD.out;have oo':=(HL.out.drew.no hf2).st.open_))
 all_goals go_wp2_with fail
 all_goals go_ret
 all_goals exact ⟨rfl,TwS.end_ (((HL.out.drew.no hf2).setReg HD.out HV.out))⟩
theorem touches2_any{w0 wr:World}{N bw mb p ds RL}{W:HW}(h:WM w0 N bw mb ds p RL W wr)(k a c z:Int)(wd sh:Bool)(d r:Nat)(dp rl im:Int)(addr:Nat)(n:Int)(g:Nat)(s:ST)(hs:SAt wr g s)(hg:N≤g)(ha:addr<18446744073709551616)(hd:d<16)(hr:r<16):
  Calls prog 194 #[.pointer (some ⟨bw,0,none⟩),(XI.mk k a c z wd sh d r dp rl im).agg, .int .u64 addr, .int .i64 n, .pointer (some ⟨g,0,none⟩)] wr fun e w'=>e= .returned (.int .i64 (mwrite W.m addr n (s.reg r)).2)∧TouTo w0 N bw mb ds p RL {W with m:=(mwrite W.m addr n (s.reg r)).1} g s wr w':=by
 have HST:Hid (∀t,_):=TwS.start h hs hg ⟨k,a,c,z,wd,sh,d,r,dp,rl,im⟩
 simp only [XI.agg]
 have HM:Hid (∀W',WM w0 N bw mb ds p RL W W'→_):=fun W' hW=>WM.memory hW
 have hv:=hs.ok.reg r
 have HR:Hid (∀W',WM w0 N bw mb ds p RL W W'→_):=fun W' hW=>WM.write hW addr n (s.reg r) ha hv
 have HD:=Lib.hid hr
 have r1:(0:Int)≤(r:Int):=by omega
 have r2:(r:Int)<16:=by omega
 clear h hs ha hd hr hg hv
 generalize {W with m:=(mwrite W.m addr n (s.reg r)).1}=W2 at*
 generalize (mwrite W.m addr n (s.reg r)).2=E at*
 go_enter func194,ntmps194
 go_upto_region 1 with fail
 refine wp_world (fun W1=>Hid (TwS w0 wr N bw mb ds p RL W g wr.heap.size ⟨k,a,c,z,wd,sh,d,r,dp,rl,im⟩ s W1)) (by exact HST.out _) ?_
 intro W1 HL
 clear HST
 obtain ⟨c0,c1,c2,c3,c4,c5,c6,c7,c8,c9,c10⟩:=XI.at HL.out.x
 clear c0 c1 c2 c3 c4 c5 c8 c9 c10
 have rg:=HL.out.st.reg HD.out
 go_region_with (first
  |(go_at_call 13;(with_reducible refine (HM.out _ HL.out.drew.wm).mono ?_);rintro e w1 ⟨rfl,rfl⟩)
  |(go_at_call 33;(with_reducible refine (HR.out _ HL.out.drew.wm).mono ?_);rintro e w2 ⟨rfl,hw2,hf2⟩))
 all_goals go_wp2_with fail
 all_goals go_ret
 all_goals exact ⟨rfl,TwS.end_ (HL.out.drew.turn hw2.out hf2.out)⟩
theorem touches5_any{w0 wr:World}{N:Nat}{bw mb p:Nat}{ds:List MapD}{RL:RQ}{W:HW}(h:WM w0 N bw mb ds p RL W wr)(k a c z:Int)(wd sh:Bool)(d r:Nat)(dp rl im:Int)(addr:Nat)(n:Int)(g:Nat)(s:ST)(hs:SAt wr g s)(hg:N≤g)(ha:addr<18446744073709551616)(hd:d<16)(hr:r<16):
  Calls prog 198 #[.pointer (some ⟨bw,0,none⟩),(XI.mk k a c z wd sh d r dp rl im).agg, .int .u64 addr, .int .i64 n, .pointer (some ⟨g,0,none⟩)] wr fun e w'=>e= .returned (.int .i64 (mread W.m addr 8).2)∧TouTo w0 N bw mb ds p RL W g {(s.set 4 (farM (s.reg 4) 8)) with pc:=(mread W.m addr 8).1} wr w':=by
 have HST:Hid (∀t,_):=TwS.start h hs hg ⟨k,a,c,z,wd,sh,d,r,dp,rl,im⟩
 simp only [XI.agg]
 have HR:Hid (∀W' s',WM w0 N bw mb ds p RL W W'→SAt W' g s'→_):=fun W' s' hW hs=>pop_any hW addr g s' hs hg ha
 have HV:=Lib.hid (mread_lt W.m addr 8)
 have HD:=Lib.hid hd
 clear h hs ha hd hr hg
 generalize (mread W.m addr 8).1=V at*
 generalize (mread W.m addr 8).2=E at*
 go_enter func198,ntmps198
 go_upto_region 1 with fail
 refine wp_world (fun W1=>Hid (TwS w0 wr N bw mb ds p RL W g wr.heap.size ⟨k,a,c,z,wd,sh,d,r,dp,rl,im⟩ s W1)) (by exact HST.out _) ?_
 intro W1 HL
 clear HST
 obtain ⟨c0,c1,c2,c3,c4,c5,c6,c7,c8,c9,c10⟩:=XI.at HL.out.x
 clear c0 c1 c2 c3 c4 c5 c8 c9 c10
 go_wp2_with (go_at_call 197;(with_reducible refine (HR.out _ _ HL.out.wm HL.out.st).mono ?_);rintro e w2 ⟨rfl,ht⟩;replace HL:=Lib.hid (HL.out.to_ ht);clear ht;have oo:=HL.out.st.open_;have c20:=HL.out.st.at.2.2.2.2)
 all_goals go_ret
 all_goals exact ⟨rfl,TwS.end_ (HL.out.setPC HV.out)⟩
theorem callM_lt{w0 wr N bw mb ds p RL}{W:HW}(h:WM w0 N bw mb ds p RL W wr)(id a0 a1 a2 a3):0≤(callM ds W id a0 a1 a2 a3).1.1∧(callM ds W id a0 a1 a2 a3).1.1<18446744073709551616:=by
 obtain ⟨h1,h2,_,_⟩:=h.tabs
 unfold callM
 split
 ·exact ⟨by simp,by simp⟩
 ·split
  ·show 0≤drawN W.D∧drawN W.D<_
   unfold drawN
   cases hD:W.D with
   |nil=>exact ⟨by simp [List.headD],by simp [List.headD]⟩
   |cons d l=>exact h.ok.draws d (by rw [hD];exact List.mem_cons_self)
  ·dsimp only
   split
   ·exact ⟨by simp,by simp⟩
   ·split
    ·exact ⟨by simp,by simp⟩
    ·split
     ·exact mlookup_lt h1 h2 _ _
     ·split
      ·exact ⟨Int.emod_nonneg _ (by decide),Int.emod_lt_of_pos _ (by decide)⟩
      ·split
       ·exact ⟨by simp,by simp⟩
       ·split
        ·exact ⟨by simp,by simp⟩
        ·exact ⟨Int.emod_nonneg _ (by decide),Int.emod_lt_of_pos _ (by decide)⟩
structure CwS(w0 wr:World)(N bw mb:Nat)(ds:List MapD)(p:Nat)(RL:RQ)(W:HW)(g:Nat)(s:ST)(w:World):Prop where
 wm:WM w0 N bw mb ds p RL W w
 st:SAt w g s
 fr:Fr (fun k=>Zof w0 N RL k∨k=g) wr w
 lg:N≤g
theorem CwS.start{w0 wr N bw mb ds p RL W g s}(h:WM w0 N bw mb ds p RL W wr)(hs:SAt wr g s)(hg:N≤g):CwS w0 wr N bw mb ds p RL W g s wr:=⟨h,hs,Fr.refl _ _,hg⟩
theorem CwS.no{w0 wr w w' N bw mb ds p RL W g s}(h:CwS w0 wr N bw mb ds p RL W g s w)(hf:Fr No w w'):CwS w0 wr N bw mb ds p RL W g s w':=
 ⟨h.wm.to hf,h.st.fr hf id,h.fr.trans hf.any,h.lg⟩
theorem CwS.drew{w0 wr w:World}{N bw mb ds p RL W g s}(h:CwS w0 wr N bw mb ds p RL W g s w):CwS w0 wr N bw mb ds p RL W g s w.drew:=h.no (Fr.refl No w).drew
theorem CwS.turn{w0 wr w w' N bw mb ds p RL W W' g s}(h:CwS w0 wr N bw mb ds p RL W g s w)(hm:WM w0 N bw mb ds p RL W' w')(hf:Fr (Zof w0 N RL) w w'):CwS w0 wr N bw mb ds p RL W' g s w':=
 ⟨hm,h.st.fr hf (fun hz=>by have:=hz.2;have:=h.lg;omega),h.fr.trans (hf.mono fun _ _ hk=> .inl hk),h.lg⟩
theorem CwS.box{w0 wr w w' N bw mb ds p RL W g s s'}(h:CwS w0 wr N bw mb ds p RL W g s w)(hs:SAt w' g s')(hf:Fr (fun k=>k=g) w w'):CwS w0 wr N bw mb ds p RL W g s' w':=
 ⟨h.wm.beside hf (fun k hk=>by rw [hk];exact h.lg),hs,h.fr.trans (hf.mono fun _ _ hk=> .inr hk),h.lg⟩
theorem CwS.setReg{w0 wr w:World}{N bw mb ds p RL W g}{s:ST}(h:CwS w0 wr N bw mb ds p RL W g s w){i}(hi:i<16){v}(hv:v<18446744073709551616):CwS w0 wr N bw mb ds p RL W g (s.set i v) (w.setCell ⟨g,i,none⟩ (.int .u64 v)):=
 h.box (h.st.setReg hi hv) ((Fr.refl (fun k=>k=g) w).setCell (p:=⟨g,i,none⟩) (.inr rfl) _)
theorem CwS.end_{w0 wr w N bw mb ds p RL W g s}(h:CwS w0 wr N bw mb ds p RL W g s w):TouTo w0 N bw mb ds p RL W g s wr w:=⟨h.wm,h.st,h.fr⟩
end Go.Proofs.YtfmcmfiebehhiaaGreatDoor

