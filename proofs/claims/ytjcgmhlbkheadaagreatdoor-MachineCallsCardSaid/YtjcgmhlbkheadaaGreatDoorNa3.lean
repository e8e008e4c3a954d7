/- firewalllaw13.MachineCalls: a call hands on five registers, in their order, and leaves the answer. -/
import Derived.Test.YtjcgmhlbkheadaaGreatDoorCore42
import Derived.Test.YtjcgmhlbkheadaaGreatDoorNb1
import Derived.Deep.RegionHeld3
import Derived.Deep.CutRange
set_option linter.all false
set_option linter.unusedVariables false
set_option linter.unusedSimpArgs false
set_option maxRecDepth 100000
set_option maxHeartbeats 8000000
namespace Go.Proofs.YtjcgmhlbkheadaaGreatDoor
open Go.RowKit
def bgS:ST:={ST.zero with r:=ST.zero.r.set 4 262264,pc:=4194304}
theorem bgS_ok:bgS.ok:=ST.ok.set ST.zero_ok 4 (by decide)|>fun h=>⟨h.len,h.lt,(by decide:(4194304:Nat)<18446744073709551616)⟩
theorem four_boxes(w:World)(a b c d:List Value)(t1 t2 t3 t4:TypeId):
  Fr No w ((((w.alloc (.cells a.toArray t1)).alloc (.cells b.toArray t2)).alloc (.cells c.toArray t3)).alloc (.cells d.toArray t4))∧CellsAt ((((w.alloc (.cells a.toArray t1)).alloc (.cells b.toArray t2)).alloc (.cells c.toArray t3)).alloc (.cells d.toArray t4)) w.heap.size 0 a
   ∧CellsAt ((((w.alloc (.cells a.toArray t1)).alloc (.cells b.toArray t2)).alloc (.cells c.toArray t3)).alloc (.cells d.toArray t4)) (w.heap.size+1) 0 b∧CellsAt ((((w.alloc (.cells a.toArray t1)).alloc (.cells b.toArray t2)).alloc (.cells c.toArray t3)).alloc (.cells d.toArray t4)) (w.heap.size+1+1) 0 c
   ∧CellsAt ((((w.alloc (.cells a.toArray t1)).alloc (.cells b.toArray t2)).alloc (.cells c.toArray t3)).alloc (.cells d.toArray t4)) (w.heap.size+1+1+1) 0 d:=by
 obtain ⟨W1,h1⟩:∃W1,W1=w.alloc (.cells a.toArray t1):=⟨_,rfl⟩
 obtain ⟨W2,h2⟩:∃W2,W2=W1.alloc (.cells b.toArray t2):=⟨_,rfl⟩
 obtain ⟨W3,h3⟩:∃W3,W3=W2.alloc (.cells c.toArray t3):=⟨_,rfl⟩
 have z1:W1.heap.size=w.heap.size+1:=by rw [h1,size_alloc]
 have z2:W2.heap.size=w.heap.size+1+1:=by rw [h2,size_alloc,z1]
 have z3:W3.heap.size=w.heap.size+1+1+1:=by rw [h3,size_alloc,z2]
 have c1:CellsAt W1 w.heap.size 0 a:=by rw [h1];exact CellsAt.new w a t1
 have c2:CellsAt W2 (w.heap.size+1) 0 b:=by rw [←z1,h2];exact CellsAt.new W1 b t2
 have c3:CellsAt W3 (w.heap.size+1+1) 0 c:=by rw [←z2,h3];exact CellsAt.new W2 c t3
 have f1:Fr No w W1:=by rw [h1];exact fr_alloc _ _
 have f2:Fr No W1 W2:=by rw [h2];exact fr_alloc _ _
 have f3:Fr No W2 W3:=by rw [h3];exact fr_alloc _ _
 have f4:Fr No W3 (W3.alloc (.cells d.toArray t4)):=fr_alloc _ _
 rw [←h1,←h2,←h3]
 exact ⟨f1.trans (f2.trans (f3.trans f4)),(f2.trans (f3.trans f4)).cells c1 id,(f3.trans f4).cells c2 id,f4.cells c3 id,by rw [←z3];exact CellsAt.new W3 d t4⟩
theorem mcalls_walk(k0 k1 v0 v1 v2 v3:UInt8)(x:Nat)(hx:x<18446744073709551616)(w:World)(hm:MachAt w):
  Calls Tryz.prog 4 #[.agg #[.int .u8 k0.toNat, .int .u8 k1.toNat], .agg #[.int .u8 v0.toNat, .int .u8 v1.toNat, .int .u8 v2.toNat, .int .u8 v3.toNat], .int .u64 x] w fun e w'=>e= .returned (.bool true)∧Fr No w w':=by
 have HR:Hid (∀W,Fr (From w) w W→Calls Tryz.prog 5 #[] W fun e w'=>e= .returned (.bool true)∧Fr No W w'):=fun W hW=>runs_any W (hm.fr hW.ours)
 have HM:=Lib.hid hm
 have HB:Hid (∀t1 t2 t3 t4,_):=fun t1 t2 t3 t4=>four_boxes w (u8s [k0,k1]) (u8s [v0,v1,v2,v3]) (mflat mcD) [.slice (some ⟨w.heap.size+1+1,0,none⟩) 1 1, .int .i64 6] t1 t2 t3 t4
 clear hm
 go_enter Tryz.func4,Tryz.ntmps4
 go_upto_region 2 with fail
 refine wp_box (fun W0=>Hid (Fr No w W0∧CellsAt W0 w.heap.size 0 (u8s [k0,k1])∧CellsAt W0 (w.heap.size+1) 0 (u8s [v0,v1,v2,v3])∧CellsAt W0 (w.heap.size+1+1) 0 (mflat mcD)∧CellsAt W0 (w.heap.size+1+1+1) 0 [.slice (some ⟨w.heap.size+1+1,0,none⟩) 1 1, .int .i64 6])) (by exact HB.out _ _ _ _) ?_
 intro W0 H0
 clear HB
 have HCK:Hid (∀W,Fr No W0 W→(convert 52 9 (.slice (some ⟨w.heap.size,0,none⟩) 2 2)).run Tryz.prog W= .ok (.string ⟨#[k0,k1]⟩) W):=fun W hW=>str_at (hW.cells H0.out.2.1 id) 2
 have HCV:Hid (∀W,Fr No W0 W→(convert 52 9 (.slice (some ⟨w.heap.size+1,0,none⟩) 4 4)).run Tryz.prog W= .ok (.string ⟨#[v0,v1,v2,v3]⟩) W):=fun W hW=>str_at (hW.cells H0.out.2.2.1 id) 4
 have HNW:Hid (∀W,Fr No W0 W→Calls Tryz.prog 6 #[.agg #[.slice (some ⟨w.heap.size+1+1,0,none⟩) 1 1, .int .i64 6], .agg #[.string ⟨#[k0,k1,v0,v1,v2,v3]⟩, .int .u64 0, .slice none 0 0, .slice none 0 0], .slice none 0 0] W (HNewQ W mcD 6 0 (mcP k0 k1 v0 v1 v2 v3) [] (mcM k0 k1 v0 v1 v2 v3))):=fun W hW=>
  hnew_made (mcP k0 k1 v0 v1 v2 v3) ⟨#[k0,k1,v0,v1,v2,v3]⟩ 6 0 (.slice (some ⟨w.heap.size+1+1,0,none⟩) 1 1) (.slice none 0 0) (.slice none 0 0) mcD W rfl rfl (.inr ⟨_,0,1,rfl,hW.cells H0.out.2.2.2.1 id⟩) mc_may [] 0 0 none (.inl ⟨rfl,rfl,rfl⟩) rfl rfl more_nil [] (.inl ⟨rfl,none,0,rfl⟩) (by decide) (by decide) (by decide)
 have a1:∀W,(Op.stringOp .add ⟨#[k0,k1]⟩ ⟨#[v0,v1,v2,v3]⟩).run Tryz.prog W= .ok (.string ⟨#[k0,k1,v0,v1,v2,v3]⟩) W:=fun W=>rfl
 have HKP:Hid (∀W,Fr No W0 W→W.cell? ⟨w.heap.size+1+1+1,0,none⟩=some (.slice (some ⟨w.heap.size+1+1,0,none⟩) 1 1)∧W.cell? ⟨w.heap.size+1+1+1,1,none⟩=some (.int .i64 6)∧(convert 52 9 (.slice (some ⟨w.heap.size,0,none⟩) 2 2)).run Tryz.prog W= .ok (.string ⟨#[k0,k1]⟩) W∧(convert 52 9 (.slice (some ⟨w.heap.size+1,0,none⟩) 4 4)).run Tryz.prog W= .ok (.string ⟨#[v0,v1,v2,v3]⟩) W∧Hid (Fr No W0 W)):=fun W hW=>⟨hW.cell (H0.out.2.2.2.2 0 _ rfl) id,hW.cell (H0.out.2.2.2.2 1 _ rfl) id,HCK.out W hW,HCV.out W hW,hW⟩
 have hS0:=HKP.out _ (Fr.refl No W0).drew
 go_region_held3 (fun W=>W.cell? ⟨w.heap.size+1+1+1,0,none⟩=some (.slice (some ⟨w.heap.size+1+1,0,none⟩) 1 1)∧W.cell? ⟨w.heap.size+1+1+1,1,none⟩=some (.int .i64 6)∧(convert 52 9 (.slice (some ⟨w.heap.size,0,none⟩) 2 2)).run Tryz.prog W= .ok (.string ⟨#[k0,k1]⟩) W∧(convert 52 9 (.slice (some ⟨w.heap.size+1,0,none⟩) 4 4)).run Tryz.prog W= .ok (.string ⟨#[v0,v1,v2,v3]⟩) W∧Hid (Fr No W0 W))
  (first|assumption|exact HKP.out _ ((Fr.refl No W0).drew.trans (by assumption)))
  (first|(go_at_call 6;(with_reducible refine (HNW.out _ (Fr.refl No W0).drew).mono ?_);rintro e1 w1 ⟨bw,b',mb,A,H,TT,mv,ov,dv,rfl,hw1,hf1⟩)|fail)
 have hd:=(Fr.refl No W0).drew
 have HMA:Hid (MachAt W0.drew):=Lib.hid (HM.out.fr (H0.out.1.trans hd))
 have HWM:Hid (WM W0.drew w1.heap.size bw mb mcD 6 (ownL 6 0 (mcP k0 k1 v0 v1 v2 v3) mcD) ⟨[],mcS,mcM k0 k1 v0 v1 v2 v3⟩ w1):=Lib.hid (WM.of hw1.out (⟨by kernel_rfl,fun d hd=>absurd hd List.not_mem_nil⟩:HWok mcD ⟨[],mcD.map Tab.new,mcM k0 k1 v0 v1 v2 v3⟩))
 have H1:Hid (Fr No w w1∧CellsAt w1 w.heap.size 0 (u8s [k0,k1])∧CellsAt w1 (w.heap.size+1) 0 (u8s [v0,v1,v2,v3])):=Lib.hid ⟨(H0.out.1.trans hd).trans hf1,hf1.cells (hd.cells H0.out.2.1 id) id,hf1.cells (hd.cells H0.out.2.2.1 id) id⟩
 have Hlo:Hid (w.heap.size+1<W0.drew.heap.size):=Lib.hid (Nat.lt_of_succ_lt (World.block_lt_of_cell? W0 _ (H0.out.2.2.2.1 0 _ rfl)))
 clear hd hw1 hf1 HKP hS0 HCK HCV HNW H0 a1
 have HBG:Hid (Calls Tryz.prog 9 #[.pointer (some ⟨bw,0,none⟩)] w1 fun e w'=>e= .returned (.tuple #[bgS.agg, .int .i64 0])∧Hid (WM W0.drew w1.heap.size bw mb mcD 6 (ownL 6 0 (mcP k0 k1 v0 v1 v2 v3) mcD) ⟨[],mcS,mcM1 k0 k1 v0 v1 v2 v3⟩ w')∧Hid (Fr (Zof W0.drew w1.heap.size) w1 w')):=Lib.hid ((begin_any HWM.out).mono fun e w' ⟨he,h2,h3⟩=>by rw [c_begin] at he h2;exact ⟨he,h2,h3⟩)
 clear HWM
 obtain ⟨NN,hNN⟩:∃NN,w1.heap.size=NN:=⟨_,rfl⟩
 rw [hNN] at HBG
 go_upto_region 4 with (first
  |(go_at_call 9;(with_reducible refine HBG.out.mono ?_);rintro e2 w2 ⟨rfl,HW2,hf2⟩;unfold ST.agg)
  |(refine (SAt.new w2 ST.zero_ok _).store bgS_ok rfl (.tmp 10) (.tmp 42) rfl rfl rfl ?_;intro W3 h3 hf3))
 obtain ⟨RL,hRL⟩:∃RL,ownL 6 0 (mcP k0 k1 v0 v1 v2 v3) mcD=RL:=⟨_,rfl⟩
 rw [hRL] at HW2
 have HC:Hid (MC w k0 k1 v0 v1 v2 v3 W0.drew NN bw mb RL mcS (mcM1 k0 k1 v0 v1 v2 v3) w2.heap.size bgS W3):=by
  have f23:Fr (fun k=>k=w2.heap.size) w2 W3:=((fr_alloc _ _:Fr No w2 _).mono fun _ _ q=>absurd q id).trans hf3
  have hN:=HW2.out.bound
  have hl:=Hlo.out
  have h2:=hf2.out
  have hz:W0.drew.heap.size<NN:=Nat.lt_of_le_of_lt HW2.out.lo HW2.out.bw
  have c1:=h2.cells H1.out.2.1 (fun hk=>by have:=hk.1;omega)
  have c2:=h2.cells H1.out.2.2 (fun hk=>by have:=hk.1;omega)
  exact Lib.hid ⟨(H1.out.1.any.trans (h2.mono fun k _ hk=>by have:=hk.1;show w.heap.size≤k;omega)).trans (f23.mono fun k _ hk=>by show w.heap.size≤k;omega),f23.cells c1 (show¬_=_ by omega),f23.cells c2 (show¬_=_ by omega),h3,HW2.out.beside f23 (fun k hk=>by omega),hl,hN⟩
 clear h3 hf3 HW2 hf2 H1 Hlo hNN hRL HBG HM
 generalize w2.heap.size=b at*
 have HT1:Hid (Calls Tryz.prog 11 #[.pointer (some ⟨mb,0,none⟩), .int .u64 262144, .int .i64 128] W3 fun e w'=>e= .returned (.tuple #[.string (bA' natH.data), .int .i64 0])∧Fr No W3 w'):=Lib.hid (HC.out.text 262144 128 (by decide) (by decide) (c_was k0 k1 v0 v1 v2 v3))
 go_upto_region 5 with (first
  |(go_at_call 10;(with_reducible refine (HC.out.wm.memory).mono ?_);rintro e4 w4 ⟨rfl,rfl⟩)
  |(go_at_call 11;(with_reducible refine HT1.out.mono ?_);rintro e5 w5 ⟨rfl,hf5⟩))
 replace HC:=Lib.hid (HC.out.no hf5)
 clear hf5 HT1
 have r4:w5.cell? ⟨b,4,none⟩=some (.int .u64 262264):=HC.out.st.reg (i:=4) (by decide)
 go_upto_region 6 with (refine HC.out.st.storeR (r:=(mcX x).r) ⟨rfl,(mcX_ok hx).lt,bgS_ok.pc⟩ rfl (.tmp 64) (.tmp 63) rfl rfl rfl ?_;intro W6 h6 hf6)
 replace HC:=Lib.hid (HC.out.state h6 hf6)
 clear h6 hf6 r4
 have oo:=HC.out.st.open_
 have c18:=HC.out.st.at.2.2.1
 have c19:=HC.out.st.at.2.2.2.1
 go_upto_region 7 with fail
 have h7:Hid (SAt ((W6.setCell ⟨b,18,none⟩ (.bool true)).setCell ⟨b,19,none⟩ (.bool true)) b (mcX x)):=Lib.hid ((HC.out.st.setC true).setO true)
 have f7:Hid (Fr (fun k=>k=b) W6 ((W6.setCell ⟨b,18,none⟩ (.bool true)).setCell ⟨b,19,none⟩ (.bool true))):=Lib.hid (((Fr.refl (fun k=>k=b) W6).setCell (p:=⟨b,18,none⟩) (.inr rfl) _).setCell (p:=⟨b,19,none⟩) (.inr rfl) _)
 refine wp_box (fun W=>Hid (MC w k0 k1 v0 v1 v2 v3 W0.drew NN bw mb RL mcS (mcM1 k0 k1 v0 v1 v2 v3) b (mcX x) W)) (by exact Lib.hid (HC.out.state h7.out f7.out)) ?_
 clear HC h7 f7 oo c18 c19
 intro W7 HC
 have HST:Hid (Calls Tryz.prog 12 #[.pointer (some ⟨bw,0,none⟩), .agg #[.int .i64 20, .int .i64 0, .int .i64 0, .int .i64 0, .bool false, .bool false, .int .i64 0, .int .i64 0, .int .i32 0, .int .i32 4194207, .int .i64 0], .int .u64 4194403, .agg (mcX x).cells.toArray] W7 fun e w'=>e= .returned (.tuple #[(mcT x).agg, .int .i64 0])∧Hid (MC w k0 k1 v0 v1 v2 v3 W0.drew NN bw mb RL (mcS1 k0 k1) (mcM2 k0 k1 v0 v1 v2 v3) b (mcX x) w')∧Hid (Fr (Zof W0.drew NN) W7 w')):=Lib.hid (HC.out.call HMA.out hx)
 go_upto_region 9 with (first
  |(refine HC.out.st.load rfl (.tmp 10) rfl rfl ?_)
  |(go_at_call 12;(with_reducible refine HST.out.mono ?_);rintro e8 w8 ⟨rfl,HC8,hf8⟩;unfold ST.agg)
  |(refine (SAt.new w8 ST.zero_ok _).store (mcT_ok hx) rfl (.tmp 15) (.tmp 73) rfl rfl rfl ?_;intro W9 h9 hf9))
 have f89:Fr (fun k=>k=w8.heap.size) w8 W9:=((fr_alloc _ _:Fr No w8 _).mono fun _ _ q=>absurd q id).trans hf9
 have hb8:=HC8.out.st.lt
 have hN8:=HC8.out.wm.bound
 replace HC:=Lib.hid (HC8.out.beside f89 hN8 (by omega))
 have HB:=Lib.hid (And.intro hb8 hN8)
 clear HC8 hf8 f89 hf9 HST hb8 hN8
 generalize w8.heap.size=bt at*
 go_upto_region 10 with (first
  |(refine HC.out.st.load rfl (.tmp 10) rfl rfl ?_)
  |(refine (SAt.new W9 ST.zero_ok _).store (mcX_ok hx) rfl (.tmp 17) (.tmp 75) rfl rfl rfl ?_;intro W10 h10 hf10))
 have f10:Fr (fun k=>k=W9.heap.size) W9 W10:=((fr_alloc _ _:Fr No W9 _).mono fun _ _ q=>absurd q id).trans hf10
 have hbq:=h9.lt
 have hb9:=HC.out.st.lt
 have hN9:=HC.out.wm.bound
 replace HC:=Lib.hid (HC.out.beside f10 hN9 (by omega))
 have HT:Hid (SAt W10 bt (mcT x)):=Lib.hid (h9.fr f10 (by omega))
 have HQ:=Lib.hid h10
 replace HB:=Lib.hid (And.intro HB.out (And.intro hbq (And.intro hb9 hN9)))
 clear f10 hf10 h10 h9 hbq hb9 hN9
 generalize W9.heap.size=bq at*
 have oo:=HQ.out.open_
 have c20:=HQ.out.at.2.2.2.2
 go_upto_region 11 with fail
 have h11:Hid (SAt (W10.setCell ⟨bq,20,none⟩ (.int .u64 4194403)) bq {mcX x with pc:=4194403}):=Lib.hid (HQ.out.setPC (v:=4194403) (by decide))
 have f11:Hid (Fr (fun k=>k=bq) W10 (W10.setCell ⟨bq,20,none⟩ (.int .u64 4194403))):=Lib.hid ((Fr.refl (fun k=>k=bq) W10).setCell (p:=⟨bq,20,none⟩) (.inr rfl) _)
 refine wp_box (fun W=>Hid (MC w k0 k1 v0 v1 v2 v3 W0.drew NN bw mb RL (mcS1 k0 k1) (mcM2 k0 k1 v0 v1 v2 v3) b (mcX x) W∧SAt W bt (mcT x)∧SAt W bq {mcX x with pc:=4194403})) (by
  have hb:=HB.out
  exact Lib.hid ⟨HC.out.beside f11.out (by omega) (by omega),HT.out.fr f11.out (by omega),h11.out⟩) ?_
 clear HC h11 f11 oo c20 HT HQ
 intro W11 HC
 have r4:W11.cell? ⟨b,4,none⟩=some (.int .u64 262264):=HC.out.1.st.reg (i:=4) (by decide)
 go_upto_region 12 with (refine HC.out.2.2.storeR (r:=(mcT x).r) ⟨rfl,(mcT_ok hx).lt,(mcT_ok hx).pc⟩ rfl (.tmp 88) (.tmp 87) rfl rfl rfl ?_;intro W12 h12 hf12)
 have H12:Hid (MC w k0 k1 v0 v1 v2 v3 W0.drew NN bw mb RL (mcS1 k0 k1) (mcM2 k0 k1 v0 v1 v2 v3) b (mcX x) W12∧SAt W12 bt (mcT x)∧SAt W12 bq (mcT x)):=by
  have hb:=HB.out
  exact Lib.hid ⟨HC.out.1.beside hf12 (by omega) (by omega),HC.out.2.1.fr hf12 (by omega),h12⟩
 clear HC h12 hf12 r4
 have HT2:Hid (Calls Tryz.prog 11 #[.pointer (some ⟨mb,0,none⟩), .int .u64 262144, .int .i64 128] W12 fun e w'=>e= .returned (.tuple #[.string (bA' natH.data), .int .i64 0])∧Fr No W12 w'):=Lib.hid (H12.out.1.text 262144 128 (by decide) (by decide) (c_now k0 k1 v0 v1 v2 v3))
 go_upto_region 13 with (first
  |(go_at_call 10;(with_reducible refine (H12.out.1.wm.memory).mono ?_);rintro e13 w13 ⟨rfl,rfl⟩)
  |(go_at_call 11;(with_reducible refine HT2.out.mono ?_);rintro e14 w14 ⟨rfl,hf14⟩))
 have H14:Hid (MC w k0 k1 v0 v1 v2 v3 W0.drew NN bw mb RL (mcS1 k0 k1) (mcM2 k0 k1 v0 v1 v2 v3) b (mcX x) w14∧SAt w14 bt (mcT x)∧SAt w14 bq (mcT x)):=Lib.hid ⟨H12.out.1.no hf14,H12.out.2.1.fr hf14 id,H12.out.2.2.fr hf14 id⟩
 clear H12 hf14 HT2
 obtain ⟨bm,hm1,hm2⟩:=H14.out.1.wm.looks 0 [k0,k1] 1048576 (mc_look k0 k1)
 have HM1:=Lib.hid hm1
 have HM2:Hid (∀W',Fr No w14 W'→Calls Tryz.prog 14 #[.pointer (some ⟨bm,0,none⟩), .int .i64 0, .string ⟨#[k0,k1]⟩] W' fun e w'=>e= .returned (.int .u64 1048576)∧Fr No W' w'):=Lib.hid hm2
 clear hm1 hm2
 have HKP:Hid (∀W,Fr No w14 W→(convert 52 9 (.slice (some ⟨w.heap.size,0,none⟩) 2 2)).run Tryz.prog W= .ok (.string ⟨#[k0,k1]⟩) W∧Hid (Fr No w14 W)):=fun W hW=>⟨str_at (hW.cells H14.out.1.key id) 2,hW⟩
 have hS0:=HKP.out _ (Fr.refl No w14).drew
 go_region_held3 (fun W=>(convert 52 9 (.slice (some ⟨w.heap.size,0,none⟩) 2 2)).run Tryz.prog W= .ok (.string ⟨#[k0,k1]⟩) W∧Hid (Fr No w14 W))
  (first|assumption|exact HKP.out _ ((Fr.refl No w14).drew.trans (by assumption)))
  (first
   |(go_at_call 13;(with_reducible refine (HM1.out _ (Fr.refl No w14).drew).mono ?_);rintro e15 w15 ⟨rfl,rfl⟩)
   |(go_at_call 14;(with_reducible refine (HM2.out _ (Fr.refl No w14).drew).mono ?_);rintro e16 w16 ⟨rfl,hf16⟩)
   |fail)
 have H16:Hid (MC w k0 k1 v0 v1 v2 v3 W0.drew NN bw mb RL (mcS1 k0 k1) (mcM2 k0 k1 v0 v1 v2 v3) b (mcX x) w16∧SAt w16 bt (mcT x)∧SAt w16 bq (mcT x)):=by
  have f:=(Fr.refl No w14).drew.trans hf16
  exact Lib.hid ⟨H14.out.1.no f,H14.out.2.1.fr f id,H14.out.2.2.fr f id⟩
 rename_i hheld
 clear hheld H14 HM1 HM2 HKP hS0 hf16
 have HT3:Hid (Calls Tryz.prog 11 #[.pointer (some ⟨mb,0,none⟩), .int .u64 1048576, .int .i64 4] w16 fun e w'=>e= .returned (.tuple #[.string ⟨#[v0,v1,v2,v3]⟩, .int .i64 0])∧Fr No w16 w'):=Lib.hid (H16.out.1.text 1048576 4 (by decide) (by decide) (c_laid k0 k1 v0 v1 v2 v3))
 go_upto_region 15 with (first
  |(go_at_call 10;(with_reducible refine (H16.out.1.wm.memory).mono ?_);rintro e17 w17 ⟨rfl,rfl⟩)
  |(go_at_call 11;(with_reducible refine HT3.out.mono ?_);rintro e18 w18 ⟨rfl,hf18⟩))
 have H18:Hid (MC w k0 k1 v0 v1 v2 v3 W0.drew NN bw mb RL (mcS1 k0 k1) (mcM2 k0 k1 v0 v1 v2 v3) b (mcX x) w18∧SAt w18 bt (mcT x)∧SAt w18 bq (mcT x)):=Lib.hid ⟨H16.out.1.no hf18,H16.out.2.1.fr hf18 id,H16.out.2.2.fr hf18 id⟩
 clear H16 hf18 HT3
 have HSB:Hid (Calls Tryz.prog 12 #[.pointer (some ⟨bw,0,none⟩), .agg #[.int .i64 20, .int .i64 0, .int .i64 0, .int .i64 0, .bool false, .bool false, .int .i64 0, .int .i64 0, .int .i32 0, .int .i32 4194209, .int .i64 0], .int .u64 4194403, .agg (mcX x).cells.toArray] w18 fun e w'=>e= .returned (.tuple #[ST.zero.agg, .int .i64 110])∧Hid (MC w k0 k1 v0 v1 v2 v3 W0.drew NN bw mb RL (mcS1 k0 k1) (mcM2 k0 k1 v0 v1 v2 v3) b (mcX x) w')∧Hid (Fr (Zof W0.drew NN) w18 w')):=Lib.hid (H18.out.1.bad HMA.out hx)
 go_upto_region 16 with (first
  |(refine H18.out.1.st.load rfl (.tmp 10) rfl rfl ?_)
  |(go_at_call 12;(with_reducible refine HSB.out.mono ?_);rintro e19 w19 ⟨rfl,HC19,hf19⟩;unfold ST.agg)
  |(refine (SAt.new w19 ST.zero_ok _).store ST.zero_ok rfl (.tmp 23) (.tmp 113) rfl rfl rfl ?_;intro W20 h20 hf20))
 have H20:Hid (MC w k0 k1 v0 v1 v2 v3 W0.drew NN bw mb RL (mcS1 k0 k1) (mcM2 k0 k1 v0 v1 v2 v3) b (mcX x) W20∧SAt W20 bt (mcT x)∧SAt W20 bq (mcT x)):=by
  have f:Fr (fun k=>k=w19.heap.size) w19 W20:=((fr_alloc _ _:Fr No w19 _).mono fun _ _ q=>absurd q id).trans hf20
  have hb:=HB.out
  have t19:=H18.out.2.1.fr hf19.out (fun hk=>by have:=hk.2;omega)
  have q19:=H18.out.2.2.fr hf19.out (fun hk=>by have:=hk.2;omega)
  have lt:=t19.lt
  have lq:=q19.lt
  have lb:=HC19.out.st.lt
  exact Lib.hid ⟨HC19.out.beside f HC19.out.wm.bound (by omega),t19.fr f (by omega),q19.fr f (by omega)⟩
 clear H18 HSB HC19 hf19 h20 hf20
 have ht:=H20.out.2.1
 have hq:=H20.out.2.2
 have hcv:(convert 52 9 (.slice (some ⟨w.heap.size+1,0,none⟩) 4 4)).run Tryz.prog W20= .ok (.string ⟨#[v0,v1,v2,v3]⟩) W20:=str_at H20.out.1.val 4
 have q1:=eq_mcT x
 have q2:=fun (xs ys:Array Value) (x y:Operand) W=>guard_St xs ys .eql x y W
 go_wp2_with (first
  |(refine SAt.loadG ht (.tmp 15) rfl rfl rfl ?_)
  |(refine SAt.loadG hq (.tmp 17) rfl rfl rfl ?_)
  |(go_at_call 5;(with_reducible refine (HR.out _ H20.out.1.fr).mono ?_);rintro e21 w21 ⟨rfl,hf21⟩))
 go_ret
 exact ⟨rfl,(H20.out.1.fr.trans hf21.any).ours⟩
end Go.Proofs.YtjcgmhlbkheadaaGreatDoor
