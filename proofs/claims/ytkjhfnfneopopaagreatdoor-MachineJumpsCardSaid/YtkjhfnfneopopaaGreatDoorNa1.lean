/- firewalllaw13.MachineJumps: code that compares two numbers and jumps by what that says. -/
import Derived.Test.YtkjhfnfneopopaaGreatDoorNa0
import Derived.Test.YtkjhfnfneopopaaGreatDoorPlJ
set_option linter.all false
set_option linter.unusedVariables false
set_option linter.unusedSimpArgs false
set_option maxRecDepth 100000
set_option maxHeartbeats 8000000
namespace Go.Proofs.YtkjhfnfneopopaaGreatDoor
open Go.RowKit
def goJ(c:Nat)(sh:Bool)(a b:Nat):List XI:= [absR 1 (sg a),absR 2 (sg b),⟨2,0,0,0,false,false,0,0,0,0,1⟩,⟨4,5,0,0,true,false,1,2,0,0,0⟩,⟨16,0,c,0,false,sh,0,0,0,7,0⟩,⟨2,0,0,0,false,false,0,0,0,0,0⟩,retX]
theorem goJ_jcc:∀c:Nat,c<10→(∀sh:Bool,putM ⟨16,0,(c:Int),0,false,sh,0,0,0,7,0⟩=jccX (condsL.getD c 0) sh)∧condsL.getD c 0∈condsL:=by decide+kernel
theorem goJ_rest:putM ⟨2,0,0,0,false,false,0,0,0,0,1⟩=immX 1∧putM ⟨4,5,0,0,true,false,1,2,0,0,0⟩=cmpX∧putM ⟨2,0,0,0,false,false,0,0,0,0,0⟩=immX 0∧putM retX=retX:=by decide+kernel
theorem goJ_put{c:Nat}(hc:c<10)(sh:Bool)(a b:Nat):(goJ c sh a b).map putM=jumpL (condsL.getD c 0) sh a b:=by
 obtain ⟨h1,h2,h3,h4⟩:=goJ_rest
 unfold goJ jumpL
 simp only [List.map_cons,List.map_nil,put_abs 1 (.inl rfl),put_abs 2 (.inr (.inl rfl)),h1,h2,h3,h4,(goJ_jcc c hc).1 sh]
theorem idxC(k:Nat)(hk:k<10)(W:World):(Instr.index 59 (.agg #[.int .i64 2, .int .i64 3, .int .i64 4, .int .i64 5, .int .i64 6, .int .i64 7, .int .i64 12, .int .i64 13, .int .i64 14, .int .i64 15]) (.int .u8 k)).run Tryz.prog W= .ok (.int .i64 (condsL.getD k 0)) W:=
 match k,hk with
 |0,_=>by kernel_rfl
 |1,_=>by kernel_rfl
 |2,_=>by kernel_rfl
 |3,_=>by kernel_rfl
 |4,_=>by kernel_rfl
 |5,_=>by kernel_rfl
 |6,_=>by kernel_rfl
 |7,_=>by kernel_rfl
 |8,_=>by kernel_rfl
 |9,_=>by kernel_rfl
def stJ(a b:Nat):ST:=⟨[0,a,b,0,0,0,0,0,0,0,0,0,0,0,0,0],false,false,false,false,0⟩
theorem stJ_ok{a b:Nat}(ha:a<18446744073709551616)(hb:b<18446744073709551616):(stJ a b).ok:=
 ⟨rfl,fun v hv=>by simp [stJ] at hv;omega,(by decide:(0:Nat)<18446744073709551616)⟩
def BareTo(w0 wo:World)(N:Nat)(R K:Int)(e:Ending)(w':World):Prop:=
 ∃s:ST,s.ok∧((s.reg 0:Nat):Int)=R∧e= .returned (.tuple #[.agg #[.int .u64 R, .int .i64 K],s.agg, .int .i64 0])∧Hid (Fr (Zof w0 N) wo w')
theorem jrun_any(cc:Int)(hc:cc∈condsL)(sh:Bool)(a b:Nat)(ha:a<18446744073709551616)(hb:b<18446744073709551616){w0 wo:World}{N bw mb p:Nat}{RL:List Reg}(h:WM w0 N bw mb [] p RL (startW []) wo)(hm:MachAt w0):
  Calls Tryz.prog 12 #[.pointer (some ⟨bw,0,none⟩), .string (bA' ((jumpL cc sh a b).flatMap encB)), .int .i64 10] wo (BareTo w0 wo N (if cmpT cc a b then 1 else 0) (if cmpT cc a b then 6 else 7)):=by
 obtain ⟨s,h1,h2⟩:=jump_run hc sh ha hb
 have e1:(((if cmpT cc a b then 1 else 0:Nat)):Int)=if cmpT cc a b then 1 else 0:=by split<;>rfl
 have e2:(((if cmpT cc a b then 6 else 7:Nat)):Int)=if cmpT cc a b then 6 else 7:=by split<;>rfl
 refine (run_any h hm _ (jump_len hc sh ha hb) 10 (by decide)).mono fun e w' ⟨he,_,hf,hg⟩=>⟨s,hg _ _ h1,by rw [h2,e1],?_,hf⟩
 rw [he,h1]
 unfold runV outV
 simp only [h2,e1,e2]
theorem jexec_any(cc:Int)(a b:Nat)(ha:a<18446744073709551616)(hb:b<18446744073709551616)(w:World)(hm:MachAt w):
  Calls Tryz.prog 17 #[cmpX.agg,(stJ a b).agg] w fun e w'=>(∃t:ST,t.ok∧takenM cc t=cmpT cc a b∧e= .returned (.tuple #[t.agg, .int .i64 0]))∧Fr No w w':=by
 have hx:=(gdB_is imm_good.2.2.1).2.1.ok
 have he:=exec_cmp (stJ a b)
 rw [show (stJ a b).reg 1=a from rfl,show (stJ a b).reg 2=b from rfl] at he
 refine (exec_any cmpX (stJ a b) w hx (stJ_ok ha hb) hm).mono fun e w' ⟨h1,h2⟩=>⟨⟨_,?_,taken_flags cc (stJ a b) a b _,?_⟩,h2⟩
 ·exact ⟨rfl,(stJ_ok ha hb).lt,(by decide:(0:Nat)<18446744073709551616)⟩
 ·rw [h1,he];rfl
theorem OB.store{w:World}{b:Nat}{a k:Int}(h:OB w b a k)(a' k':Int){ops:Array Oper}{rest:List Oper}{op:Oper}{c:Act}{Q:Exit→Act→World→Prop}(hgd:op.guard=none)(px py:Operand)(ho:op.op= .store 38 px py)
  (hx:c.eval px= .pointer (some ⟨b,0,none⟩)) (hy:c.eval py= .agg #[.int .u64 a', .int .i64 k']) (kk:∀W',OB W' b a' k'→Fr (fun x=>x=b) w W'→wpList Tryz.prog ops Q rest (c.put op.dst undef) W'):wpList Tryz.prog ops Q (op::rest) c w:=
 wpList_store_mid hgd 38 px py ho b 0 #[.int .u64 a', .int .i64 k'] hx hy h.there (by kernel_rfl) (by simp [Value.oneCell'])
  (kk _ ⟨World.rangeAt_setCells_same w b 0 [.int .u64 a', .int .i64 k'] h.there,fun j=>by rw [World.frozen?_setCells];exact h.open_ j⟩ ((Fr.refl (fun x=>x=b) w).setCells (.inr rfl) 0 _))
theorem OB.new(w:World)(a k:Int)(t:TypeId):OB (w.alloc (.cells #[.int .u64 a, .int .i64 k] t)) w.heap.size a k:=⟨CellsAt.new w [.int .u64 a, .int .i64 k] t,fun j=>World.frozen?_alloc_new _ _ _ _⟩
theorem mjumps_any(c:Nat)(hc:c<256)(sh:Bool)(a b:Nat)(ha:a<18446744073709551616)(hb:b<18446744073709551616)(w:World)(hm:MachAt w):
  Calls Tryz.prog 5 #[.int .u8 c, .agg #[.int .u64 a, .int .u64 b], .bool sh] w fun e w'=>e= .returned (.bool true)∧Fr No w w':=by
 obtain ⟨k,hk⟩:∃k,c%10=k:=⟨_,rfl⟩
 have hk10:k<10:=by omega
 have HR:Hid (∀W,Fr (From w) w W→Calls Tryz.prog 11 #[] W fun e w'=>e= .returned (.bool true)∧Fr No W w'):=fun W hW=>runs_any W (hm.fr hW.ours)
 have HNEW:Hid (∀W:World,Calls Tryz.prog 15 #[.agg #[.slice none 0 0, .int .i64 0], .agg #[.string ⟨#[]⟩, .int .u64 0, .slice none 0 0, .slice none 0 0], .slice none 0 0] W (HNewQ W [] 0 0 [] [] (memL 0 0 [] [] []))):=bare_new
 obtain ⟨cc,hcc⟩:∃cc,condsL.getD k 0=cc:=⟨_,rfl⟩
 have hmem:cc∈condsL:=hcc ▸ (goJ_jcc k hk10).2
 obtain ⟨CB,hCB⟩:∃CB,(jumpL cc sh a b).flatMap encB=CB:=⟨_,rfl⟩
 have HC:Hid (∀v W,XsIn W v (goJ k sh a b)→Calls Tryz.prog 16 #[v] W fun e w'=>e= .returned (.string (bA' CB))∧Fr No W w'):=fun v W hv=>by
  have:=code_any (goJ k sh a b) v W hv (by show 7≤1000;omega)
  rwa [codeM_put (goJ_put hk10 sh a b),hcc,hCB] at this
 obtain ⟨T,hT⟩:∃T,cmpT cc a b=T:=⟨_,rfl⟩
 obtain ⟨R,K,hRK⟩:∃R K:Int,R=(if T then 1 else 0)∧K=(if T then 6 else 7):=⟨_,_,rfl,rfl⟩
 have HRN:Hid (∀(w0 wo:World) (N bw mb p:Nat) (RL:List Reg),WM w0 N bw mb [] p RL (startW []) wo→MachAt w0→Calls Tryz.prog 12 #[.pointer (some ⟨bw,0,none⟩), .string (bA' CB), .int .i64 10] wo (BareTo w0 wo N R K)):=fun w0 wo N bw mb p RL h hm=>by
  rw [←hCB,hRK.1,hRK.2,←hT];exact jrun_any cc hmem sh a b ha hb h hm
 have HEX:Hid (∀W,Fr (From w) w W→Calls Tryz.prog 17 #[.agg #[.int .i64 4, .int .i64 7, .int .i64 0, .int .i64 0, .bool true, .bool false, .int .i64 1, .int .i64 2, .int .i32 0, .int .i32 0, .int .i64 0], .agg #[.int .u64 0, .int .u64 a, .int .u64 b, .int .u64 0, .int .u64 0, .int .u64 0, .int .u64 0, .int .u64 0, .int .u64 0, .int .u64 0, .int .u64 0, .int .u64 0, .int .u64 0, .int .u64 0, .int .u64 0, .int .u64 0, .bool false, .bool false, .bool false, .bool false, .int .u64 0]] W fun e w'=>(∃t:ST,t.ok∧takenM cc t=T∧e= .returned (.tuple #[t.agg, .int .i64 0]))∧Fr No W w'):=fun W hW=>by
  rw [←hT];exact jexec_any cc a b ha hb W (hm.fr hW.ours)
 have i10:=idxC k hk10
 rw [hcc] at i10
 have hm10:(c:Int)%10=(k:Int):=by omega
 have HNA:Hid (∀t,Fr No w (w.alloc (.cells #[.int .u64 (a:Int), .int .u64 (b:Int)] t))∧CellsAt (w.alloc (.cells #[.int .u64 (a:Int), .int .u64 (b:Int)] t)) w.heap.size 0 [.int .u64 a, .int .u64 b]):=fun t=>⟨fr_alloc _ _,CellsAt.new w _ t⟩
 have sa:IntKind.i64.wrap (a:Int)=sg a:=rfl
 have sb:IntKind.i64.wrap (b:Int)=sg b:=rfl
 have ta:RowKit.wrap64 (a:Int)=sg a:=wrap_sg _
 have tb:RowKit.wrap64 (b:Int)=sg b:=wrap_sg _
 have HM:=Lib.hid hm
 have HS:Hid (∀(W:World) (o:Obj) (t:TypeId),SAt ((W.alloc o).alloc (.cells ST.zero.cells.toArray t)) (W.heap.size+1) ST.zero):=fun W o t=>by rw [←size_alloc W o];exact SAt.new _ ST.zero_ok _
 have HRK:=Lib.hid hRK
 clear hm hCB hT hRK
 go_enter Tryz.func5,Tryz.ntmps5
 go_upto_region 3 with fail
 refine wp_box (fun W1=>Hid (Fr No w W1∧CellsAt W1 w.heap.size 0 [.int .u64 a, .int .u64 b])) (by exact HNA.out _) ?_
 intro W1 H1
 clear HNA
 have n0:=H1.out.2 0 _ rfl
 have n1:=H1.out.2 1 _ rfl
 simp only [Nat.zero_add] at n0 n1
 have HX:Hid (∀t,Fr No w (W1.alloc (.cells (xflat (goJ k sh a b)).toArray t))∧CellsAt (W1.alloc (.cells (xflat (goJ k sh a b)).toArray t)) w.heap.size 0 [.int .u64 a, .int .u64 b]∧XsIn (W1.alloc (.cells (xflat (goJ k sh a b)).toArray t)) (.slice (some ⟨W1.heap.size,0,none⟩) 7 7) (goJ k sh a b)):=fun t=>⟨H1.out.1.trans (fr_alloc _ _),(fr_alloc _ _:Fr No _ _).cells H1.out.2 id, .inr ⟨_,0,7,rfl,CellsAt.new W1 _ t⟩⟩
 go_upto_region 4 with fail
 refine wp_box (fun W2=>Hid (Fr No w W2∧CellsAt W2 w.heap.size 0 [.int .u64 a, .int .u64 b]∧XsIn W2 (.slice (some ⟨W1.heap.size,0,none⟩) 7 7) (goJ k sh a b))) (by exact HX.out _) ?_
 intro W2 H2
 clear HX H1 n0 n1 sa sb ta tb i10 hm10
 generalize W1.heap.size=bx at*
 go_upto_region 5 with (go_at_call 15;(with_reducible refine (HNEW.out _).mono ?_);rintro e1 w1 ⟨bw,b',mb,A,H,TT,mv,ov,dv,rfl,hw1,hf1⟩)
 have HM2:Hid (MachAt W2):=Lib.hid (HM.out.fr H2.out.1)
 have HWM:Hid (WM W2 w1.heap.size bw mb [] 0 (ownL 0 0 [] []) (startW []) w1):=Lib.hid (WM.of hw1.out (⟨rfl,fun d hd=>absurd hd List.not_mem_nil⟩:HWok [] ⟨[],([]:List MapD).map Tab.new,memL 0 0 [] [] []⟩))
 have H3:Hid (Fr No w w1∧CellsAt w1 w.heap.size 0 [.int .u64 a, .int .u64 b]∧XsIn w1 (.slice (some ⟨bx,0,none⟩) 7 7) (goJ k sh a b)):=Lib.hid ⟨H2.out.1.trans hf1,hf1.cells H2.out.2.1 id,H2.out.2.2.fr hf1⟩
 have Hle:=H2.out.1.size
 clear hw1 hf1 HNEW
 go_upto_region 6 with (first
  |(go_at_call 16;(with_reducible refine (HC.out _ _ H3.out.2.2).mono ?_);rintro e2 w2 ⟨rfl,hf2⟩;replace HWM:=Lib.hid (HWM.out.to hf2);have H4:=Lib.hid (And.intro (H3.out.1.trans hf2) (hf2.cells H3.out.2.1 id));clear hf2 H3)
  |(go_at_call 12;(with_reducible refine (HRN.out _ _ _ _ _ _ _ HWM.out HM2.out).mono ?_);rintro e3 w3 ⟨s,hs,hs0,rfl,hf3⟩;unfold ST.agg)
  |(refine (HS.out w3 _ _).store hs rfl (.tmp 13) (.tmp 53) rfl rfl rfl ?_;intro W9 h9 hf9))
 have H9:Hid (Fr (From w) w W9∧CellsAt W9 w.heap.size 0 [.int .u64 a, .int .u64 b]∧CellsAt W9 w3.heap.size 0 [.int .u64 R, .int .i64 K]∧SAt W9 (w3.heap.size+1) s∧w.heap.size<w3.heap.size):=by
  have z4:=H4.out.1.size
  have z3:=hf3.out.size
  have l4:w.heap.size<w2.heap.size:=World.block_lt_of_cell? w2 _ (H4.out.2 0 _ rfl)
  have g3:Fr (fun k=>k=w3.heap.size+1) w3 W9:=(((fr_alloc _ _).trans (fr_alloc _ _):Fr No w3 _).mono fun _ _ q=>absurd q id).trans hf9
  have hn:∀x,Zof W2 w1.heap.size x→W2.heap.size≤x:=fun x hx=>hx.1
  have c4:CellsAt w3 w.heap.size 0 [.int .u64 a, .int .u64 b]:=hf3.out.cells H4.out.2 (fun hx=>by have:=hn _ hx;have l2:w.heap.size<W2.heap.size:=World.block_lt_of_cell? W2 _ (H2.out.2.1 0 _ rfl);omega)
  refine Lib.hid ⟨H4.out.1.any.trans ((hf3.out.mono fun x _ hx=>Nat.le_trans Hle (hn x hx)).trans (g3.mono fun x _ hx=>by show w.heap.size≤x;omega)),g3.cells c4 (show¬w.heap.size=w3.heap.size+1 by omega),?_,h9,by omega⟩
  exact hf9.cells ((fr_alloc _ _:Fr No _ _).cells (CellsAt.new w3 [.int .u64 R, .int .i64 K] _) id) (show¬w3.heap.size=w3.heap.size+1 by omega)
 have n0:=H9.out.2.1 0 _ rfl
 have n1:=H9.out.2.1 1 _ rfl
 simp only [Nat.zero_add] at n0 n1
 clear h9 hf9 hf3 H4 HWM HM2 H2 HM HRN HC
 generalize w3.heap.size=bo at*
 go_upto_region 7 with (first
  |(go_at_call 17;(with_reducible refine (HEX.out _ H9.out.1).mono ?_);rintro e4 w4 ⟨⟨t,ht,htk,rfl⟩,hf4⟩;unfold ST.agg)
  |(refine (SAt.new w4 ST.zero_ok _).store ht rfl (.tmp 15) (.tmp 64) rfl rfl rfl ?_;intro W5 h5 hf5))
 have H5:Hid (Fr (From w) w W5∧CellsAt W5 bo 0 [.int .u64 R, .int .i64 K]∧SAt W5 (bo+1) s∧SAt W5 w4.heap.size t∧bo+1<w4.heap.size∧w.heap.size<bo):=by
  have ls:=(H9.out.2.2.2.1.fr hf4 id).lt
  have lb:=H9.out.2.2.2.2
  have f45:Fr (fun x=>x=w4.heap.size) w4 W5:=((fr_alloc _ _:Fr No w4 _).mono fun _ _ q=>absurd q id).trans hf5
  exact Lib.hid ⟨(H9.out.1.trans hf4.any).trans (f45.mono fun x _ hx=>by show w.heap.size≤x;omega),f45.cells (hf4.cells H9.out.2.2.1 id) (show¬bo=w4.heap.size by omega),(H9.out.2.2.2.1.fr hf4 id).fr f45 (show¬bo+1=w4.heap.size by omega),h5,ls,lb⟩
 clear h5 hf5 hf4 H9 n0 n1 HEX HS
 generalize w4.heap.size=bt at*
 have HTK:Hid (∀W,Calls Tryz.prog 18 #[.int .i64 cc, .agg t.cells.toArray] W fun e w'=>e= .returned (.bool T)∧Fr No W w'):=fun W=>htk ▸ taken_any cc t W ht
 have HQ:Hid (∀tt,Fr (From w) w (W5.alloc (.cells #[.int .u64 0, .int .i64 7] tt))∧CellsAt (W5.alloc (.cells #[.int .u64 0, .int .i64 7] tt)) bo 0 [.int .u64 R, .int .i64 K]∧SAt (W5.alloc (.cells #[.int .u64 0, .int .i64 7] tt)) (bo+1) s∧SAt (W5.alloc (.cells #[.int .u64 0, .int .i64 7] tt)) bt t∧OB (W5.alloc (.cells #[.int .u64 0, .int .i64 7] tt)) W5.heap.size 0 7):=fun tt=>
  ⟨H5.out.1.trans (fr_alloc _ _).any,(fr_alloc _ _:Fr No _ _).cells H5.out.2.1 id,H5.out.2.2.1.fr (fr_alloc _ _) id,H5.out.2.2.2.1.fr (fr_alloc _ _) id,OB.new W5 0 7 tt⟩
 have lq:=H5.out.2.2.2.1.lt
 have lt2:=H5.out.2.2.2.2
 go_upto_region 8 with fail
 refine wp_box (fun W6=>Hid (Fr (From w) w W6∧CellsAt W6 bo 0 [.int .u64 R, .int .i64 K]∧SAt W6 (bo+1) s∧SAt W6 bt t∧OB W6 W5.heap.size 0 7)) (by exact HQ.out _) ?_
 intro W6 H6
 clear HQ H5 htk ht
 generalize W5.heap.size=bq at*
 have q2:=fun (xs ys:Array Value) (x y:Operand) W=>guard_out xs ys .eql x y W
 have q1:∀W,(binOp .eql 38 (.agg #[.int .u64 0, .int .i64 7]) (.agg #[.int .u64 0, .int .i64 7])).run Tryz.prog W= .ok (.bool true) W:=fun W=>(eq_out 0 7 0 7 W).trans rfl
 have q3:∀W,(binOp .eql 38 (.agg #[.int .u64 1, .int .i64 6]) (.agg #[.int .u64 1, .int .i64 6])).run Tryz.prog W= .ok (.bool true) W:=fun W=>(eq_out 1 6 1 6 W).trans rfl
 cases T
 ·have hRK:=HRK.out
  simp only [Bool.false_eq_true,if_false] at hRK
  obtain ⟨rfl,rfl⟩:=hRK
  clear HRK
  go_upto_region 10 with (first|(refine SAt.load H6.out.2.2.2.1 rfl (.tmp 15) rfl rfl ?_)|(go_at_call 18;(with_reducible refine (HTK.out _).mono ?_);rintro e7 w7 ⟨rfl,hf7⟩))
  have o0:=hf7.cell (H6.out.2.1 0 _ rfl) id
  have o1:=hf7.cell (H6.out.2.1 1 _ rfl) id
  have r0:=(H6.out.2.2.1.fr hf7 id).reg (show 0<16 by decide)
  rw [hs0] at r0
  simp only [Nat.zero_add] at o0 o1 r0
  have p0:=(H6.out.2.2.2.2.fr hf7 id).at.1
  have p1:=(H6.out.2.2.2.2.fr hf7 id).at.2
  have HF:=Lib.hid (H6.out.1.trans hf7.any)
  clear H6 hf7 HTK hs0
  go_wp2_with (go_at_call 11;(with_reducible refine (HR.out _ HF.out).mono ?_);rintro e8 w8 ⟨rfl,hf8⟩)
  go_ret
  exact ⟨rfl,(HF.out.trans hf8.any).ours⟩
 ·have hRK:=HRK.out
  simp only [if_true] at hRK
  obtain ⟨rfl,rfl⟩:=hRK
  clear HRK
  go_upto_region 9 with (first|(refine SAt.load H6.out.2.2.2.1 rfl (.tmp 15) rfl rfl ?_)|(go_at_call 18;(with_reducible refine (HTK.out _).mono ?_);rintro e7 w7 ⟨rfl,hf7⟩))
  have o0:=hf7.cell (H6.out.2.1 0 _ rfl) id
  have o1:=hf7.cell (H6.out.2.1 1 _ rfl) id
  have r0:=(H6.out.2.2.1.fr hf7 id).reg (show 0<16 by decide)
  rw [hs0] at r0
  simp only [Nat.zero_add] at o0 o1 r0
  have HO:=H6.out.2.2.2.2.fr hf7 id
  have HF:=Lib.hid (H6.out.1.trans hf7.any)
  clear H6 hf7 HTK hs0
  go_upto_region 10 with (refine HO.store 1 6 rfl (.tmp 17) (.tmp 70) rfl rfl rfl ?_;intro W8 h8 hf8)
  have p0:=h8.at.1
  have p1:=h8.at.2
  replace o0:=hf8.cell o0 (show¬bo=bq by omega)
  replace o1:=hf8.cell o1 (show¬bo=bq by omega)
  replace r0:=hf8.cell r0 (show¬bo+1=bq by omega)
  have HF2:Hid (Fr (From w) w W8):=Lib.hid (HF.out.trans (hf8.mono fun x _ hx=>by show w.heap.size≤x;omega))
  clear h8 hf8 HO HF
  go_wp2_with (go_at_call 11;(with_reducible refine (HR.out _ HF2.out).mono ?_);rintro e8 w9 ⟨rfl,hf9⟩)
  go_ret
  exact ⟨rfl,(HF2.out.trans hf9.any).ours⟩
end Go.Proofs.YtkjhfnfneopopaaGreatDoor
