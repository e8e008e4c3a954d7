/- firewalllaw13.MachineNone: in a world that is none nothing runs. -/
import Derived.Test.YtkjhfnfneopopaaGreatDoorCore43
import Derived.Test.YtkjhfnfneopopaaGreatDoorMx13
set_option linter.all false
set_option linter.unusedVariables false
set_option linter.unusedSimpArgs false
set_option maxRecDepth 100000
set_option maxHeartbeats 8000000
namespace Go.Proofs.YtkjhfnfneopopaaGreatDoor
open Go.RowKit
def zS:Value:= .agg #[.int .u64 0, .int .u64 0, .int .u64 0, .int .u64 0, .int .u64 0, .int .u64 0, .int .u64 0, .int .u64 0, .int .u64 0, .int .u64 0, .int .u64 0, .int .u64 0, .int .u64 0, .int .u64 0, .int .u64 0, .int .u64 0, .bool false, .bool false, .bool false, .bool false, .int .u64 0]
theorem neq_zS(W:World):(binOp .neq 41 (.agg #[.int .u64 0, .int .u64 0, .int .u64 0, .int .u64 0, .int .u64 0, .int .u64 0, .int .u64 0, .int .u64 0, .int .u64 0, .int .u64 0, .int .u64 0, .int .u64 0, .int .u64 0, .int .u64 0, .int .u64 0, .int .u64 0, .bool false, .bool false, .bool false, .bool false, .int .u64 0]) (.agg #[.int .u64 0, .int .u64 0, .int .u64 0, .int .u64 0, .int .u64 0, .int .u64 0, .int .u64 0, .int .u64 0, .int .u64 0, .int .u64 0, .int .u64 0, .int .u64 0, .int .u64 0, .int .u64 0, .int .u64 0, .int .u64 0, .bool false, .bool false, .bool false, .bool false, .int .u64 0])).run Tryz.prog W= .ok (.bool false) W:=by kernel_rfl
theorem neq_zO(W:World):(binOp .neq 38 (.agg #[.int .u64 0, .int .i64 0]) (.agg #[.int .u64 0, .int .i64 0])).run Tryz.prog W= .ok (.bool false) W:=by kernel_rfl
theorem guard_S(xs ys:Array Value)(op:BinOp)(x y:Operand)(w:World):(eqGuard op 41 x y (.agg xs) (.agg ys)).run Tryz.prog w= .ok () w:=run_eqGuard_agg w op _ x y xs ys (by kernel_rfl)
theorem idxN0(p:Option Addr)(W:World):(Instr.index 35 (.agg #[.pointer none, .pointer p]) (.int .i64 0)).run Tryz.prog W= .ok (.pointer none) W:=by kernel_rfl
theorem idxN1(p:Option Addr)(W:World):(Instr.index 35 (.agg #[.pointer none, .pointer p]) (.int .i64 1)).run Tryz.prog W= .ok (.pointer p) W:=by kernel_rfl
structure NB(w0:World)(bo bs:Nat)(bl:List Nat)(w:World):Prop where
 fr:Fr No w0 w
 lo:w0.heap.size≤bo
 out:CellsAt w bo 0 [.int .u64 0, .int .i64 0]
 st:SAt w bs ST.zero
 ne:bo<bs
 more:∀b∈bl,SAt w b ST.zero∧bs<b
theorem NB.no{w0 w w':World}{bo bs:Nat}{bl:List Nat}(h:NB w0 bo bs bl w)(hf:Fr No w w'):NB w0 bo bs bl w':=⟨h.fr.trans hf,h.lo,hf.cells h.out id,h.st.fr hf id,h.ne,fun b hb=>⟨(h.more b hb).1.fr hf id,(h.more b hb).2⟩⟩
theorem NB.next{w0 w w':World}{bo bs:Nat}{bl:List Nat}(h:NB w0 bo bs bl w)(o:Obj)(hs:SAt w' w.heap.size ST.zero)(hf:Fr (fun k=>k=w.heap.size) (w.alloc o) w'):NB w0 bo bs (w.heap.size::bl) w':=by
 have ho:bo<w.heap.size:=World.block_lt_of_cell? w _ (h.out 0 _ rfl)
 have hl:=h.st.lt
 have f1:Fr No w (w.alloc o):=fr_alloc _ _
 have f2:Fr (fun k=>k=w.heap.size) w w':=(f1.mono fun _ _ q=>absurd q id).trans hf
 refine ⟨(h.fr.any.trans (f2.mono fun k _ hk=>by have:=h.fr.size;show w0.heap.size≤k;omega):Fr (From w0) w0 w').ours,h.lo,f2.cells h.out (show¬bo=w.heap.size by omega),h.st.fr f2 (show¬bs=w.heap.size by omega),h.ne,fun b hb=> ?_⟩
 rcases List.mem_cons.1 hb with rfl|hb
 ·exact ⟨hs,hl⟩
 ·have:=(h.more b hb).1.lt
  exact ⟨(h.more b hb).1.fr f2 (show¬b=w.heap.size by omega),(h.more b hb).2⟩
theorem mnone_walk(code:List UInt8)(x:XI)(most:Int)(w:World)(hm:MachAt w):
  Calls Tryz.prog 3 #[.string (bA' code),x.agg, .int .i64 most] w fun e w'=>e= .returned (.bool true)∧Fr No w w':=by
 have HR:Hid (∀W,Fr No w W→Calls Tryz.prog 11 #[] W fun e w'=>e= .returned (.bool true)∧Fr No W w'):=fun W hW=>runs_any W (hm.fr hW)
 clear hm
 have HE:Hid (∀t,Fr No w (w.alloc (.cells x.cells.toArray t))∧XB (w.alloc (.cells x.cells.toArray t)) w.heap.size x):=fun t=>⟨fr_alloc _ _,XB.new w _ t⟩
 have HST:Hid (∀q W,NW q W→Calls Tryz.prog 13 #[q,x.agg, .int .u64 0, .agg #[.int .u64 0, .int .u64 0, .int .u64 0, .int .u64 0, .int .u64 0, .int .u64 0, .int .u64 0, .int .u64 0, .int .u64 0, .int .u64 0, .int .u64 0, .int .u64 0, .int .u64 0, .int .u64 0, .int .u64 0, .int .u64 0, .bool false, .bool false, .bool false, .bool false, .int .u64 0]] W fun e w'=>e= .returned (.tuple #[.agg #[.int .u64 0, .int .u64 0, .int .u64 0, .int .u64 0, .int .u64 0, .int .u64 0, .int .u64 0, .int .u64 0, .int .u64 0, .int .u64 0, .int .u64 0, .int .u64 0, .int .u64 0, .int .u64 0, .int .u64 0, .int .u64 0, .bool false, .bool false, .bool false, .bool false, .int .u64 0], .int .i64 1])∧Fr No W w'):=fun q W h=>step_none q x 0 ST.zero ST.zero_ok W h
 have HRN:Hid (∀q W,NW q W→Calls Tryz.prog 12 #[q, .string (bA' code), .int .i64 most] W fun e w'=>e= .returned (.tuple #[.agg #[.int .u64 0, .int .i64 0], .agg #[.int .u64 0, .int .u64 0, .int .u64 0, .int .u64 0, .int .u64 0, .int .u64 0, .int .u64 0, .int .u64 0, .int .u64 0, .int .u64 0, .int .u64 0, .int .u64 0, .int .u64 0, .int .u64 0, .int .u64 0, .int .u64 0, .bool false, .bool false, .bool false, .bool false, .int .u64 0], .int .i64 1])∧Fr No W w'):=fun q W h=>run_none q code most W h
 have HBN:Hid (∀q W,NW q W→Calls Tryz.prog 14 #[q] W fun e w'=>e= .returned (.tuple #[.agg #[.int .u64 0, .int .u64 0, .int .u64 0, .int .u64 0, .int .u64 0, .int .u64 0, .int .u64 0, .int .u64 0, .int .u64 0, .int .u64 0, .int .u64 0, .int .u64 0, .int .u64 0, .int .u64 0, .int .u64 0, .int .u64 0, .bool false, .bool false, .bool false, .bool false, .int .u64 0], .int .i64 1])∧Fr No W w'):=fun q W h=>begin_none q W h
 have HS:Hid (∀(W:World) (o:Obj) (t:TypeId),SAt ((W.alloc o).alloc (.cells ST.zero.cells.toArray t)) (W.heap.size+1) ST.zero):=fun W o t=>by rw [←size_alloc W o];exact SAt.new _ ST.zero_ok _
 have sz:(bA' code).size=code.length:=sizeJ code
 obtain ⟨k,a,c,z,wd,sh,d,r,dp,rl,im⟩:=x
 simp only [XI.agg] at*
 go_enter Tryz.func3,Tryz.ntmps3
 go_upto_region 1 with fail
 refine wp_world (fun W1=>Hid (Fr No w W1∧XB W1 w.heap.size ⟨k,a,c,z,wd,sh,d,r,dp,rl,im⟩)) (by exact Lib.hid (HE.out _)) ?_
 intro W1 HL
 clear HE
 by_cases hl:(code.length:Int)>1000
 ·have q1:decide ((code.length:Int)>1000)=true:=by simpa using hl
  go_wp2_with (go_at_call 11;(with_reducible refine (HR.out _ HL.out.1).mono ?_);rintro e w1 ⟨rfl,hf1⟩)
  go_ret
  exact ⟨rfl,HL.out.1.trans hf1⟩
 ·have q1:decide ((code.length:Int)>1000)=false:=by simpa using hl
  have HNB:Hid (∀W,Fr No (W1.alloc (.cells #[.bool false, .slice none 0 0, .int .i64 0, .slice none 0 0, .pointer none, .pointer none, .slice none 0 0] 34)) W→NW (.pointer (some ⟨W1.heap.size,0,none⟩)) W∧Fr No w W∧XB W w.heap.size ⟨k,a,c,z,wd,sh,d,r,dp,rl,im⟩):=fun W hW=>by
   have f1:Fr No W1 W:=(fr_alloc _ _).trans hW
   exact ⟨.inr ⟨_,rfl,hW.cell (CellsAt.new W1 [.bool false, .slice none 0 0, .int .i64 0, .slice none 0 0, .pointer none, .pointer none, .slice none 0 0] _ 0 _ rfl) id⟩,HL.out.1.trans f1,HL.out.2.fr f1 id⟩
  go_wp2_with fail
  obtain ⟨W2,hW2⟩:∃W2,W2=(W1.alloc (.cells #[.bool false, .slice none 0 0, .int .i64 0, .slice none 0 0, .pointer none, .pointer none, .slice none 0 0] 34)):=⟨_,rfl⟩
  rw [←hW2] at HNB ⊢
  clear hW2 HL
  generalize hB:W1.heap.size=B at*
  clear hB hl
  go_loopw [23] (fun s wr=>∃i:Nat,i≤2∧s= .int .i64 i∧Hid (Fr No W2 wr)) (fun s _=>2-(intOf s).toNat)
  case atStart=>exact ⟨0,Nat.zero_le _,rfl,Fr.refl _ _⟩
  case round=>
   obtain ⟨i,hi,rfl,HF⟩:=hrel
   by_cases hlt:i<2
   ·have q2:decide ((i:Int)<2)=true:=by simp;omega
    go_upto_region 5 with fail
    go_cut [8] from 24 to 25 (fun s wx=>Hid (NW s wx)∧Hid (Fr No W2 wx))
    case first=>
     have i0:=idxN0
     have i1:=idxN1
     obtain rfl|rfl:i=0∨i=1:=by omega
     ·go_wp2_with fail
      go_meet
      exact ⟨.inl rfl,HF⟩
     ·go_wp2_with fail
      go_meet
      exact ⟨(HNB.out _ HF.out).1,HF⟩
    case rest=>
     rename Value=>q
     obtain ⟨HQ,HF2⟩:=hcut
     go_upto_region 7 with (first
      |(go_at_call 12;(with_reducible refine (HRN.out _ _ HQ.out).mono ?_);rintro e3 w3 ⟨rfl,hf3⟩)
      |(refine (HS.out w3 _ _).store ST.zero_ok rfl (.tmp 10) (.tmp 32) rfl rfl rfl ?_;intro W6 h6 hf6))
     have HN6:Hid (NB wc w3.heap.size (w3.heap.size+1) [] W6):=by
      have g1:Fr No w3 ((w3.alloc (.cells #[.int .u64 0, .int .i64 0] 38)).alloc (.cells ST.zero.cells.toArray 41)):=(fr_alloc _ _).trans (fr_alloc _ _)
      have g2:Fr (fun k=>k=w3.heap.size+1) w3 W6:=(g1.mono fun _ _ q=>absurd q id).trans hf6
      have hs:=hf3.size
      refine Lib.hid ⟨((hf3.any.trans (g2.mono fun k _ hk=>by show wc.heap.size≤k;omega)):Fr (From wc) wc W6).ours,hs,?_,h6,by omega,fun b hb=>absurd hb List.not_mem_nil⟩
      refine hf6.cells ((fr_alloc _ _:Fr No _ _).cells (CellsAt.new w3 [.int .u64 0, .int .i64 0] _) id) (show¬w3.heap.size=w3.heap.size+1 by omega)
     generalize w3.heap.size=bo at HN6
     generalize bo+1=bs at*
     clear hf3 h6 hf6
     obtain ⟨_,_,hx⟩:=HNB.out _ (HF2.out.trans HN6.out.fr)
     obtain ⟨c0,c1,c2,c3,c4,c5,c6,c7,c8,c9,c10⟩:=XI.at hx.cells
     clear hx
     go_upto_region 8 with (first
      |(go_at_call 13;(with_reducible refine (HST.out _ _ (HQ.out.fr HN6.out.fr)).mono ?_);rintro e7 w7 ⟨rfl,hf7⟩)
      |(refine (SAt.new w7 ST.zero_ok _).store ST.zero_ok rfl (.tmp 12) (.tmp 39) rfl rfl rfl ?_;intro W8 h8 hf8))
     have HN8:=Lib.hid ((HN6.out.no hf7).next _ h8 hf8)
     generalize w7.heap.size=b12 at*
     clear hf7 h8 hf8 c0 c1 c2 c3 c4 c5 c6 c7 c8 c9 c10 HN6
     go_upto_region 9 with (first
      |(go_at_call 14;(with_reducible refine (HBN.out _ _ (HQ.out.fr HN8.out.fr)).mono ?_);rintro e9 w9 ⟨rfl,hf9⟩)
      |(refine (SAt.new w9 ST.zero_ok _).store ST.zero_ok rfl (.tmp 14) (.tmp 44) rfl rfl rfl ?_;intro W10 h10 hf10))
     have HN10:=Lib.hid ((HN8.out.no hf9).next _ h10 hf10)
     generalize w9.heap.size=b14 at*
     clear hf9 h10 hf10 HN8
     have hs10:=HN10.out.st
     have ht10:=(HN10.out.more b12 (by simp)).1
     have hu10:=(HN10.out.more b14 (by simp)).1
     have o0:=HN10.out.out 0 _ rfl
     have o1:=HN10.out.out 1 _ rfl
     simp only [Nat.zero_add,Nat.add_zero] at o0 o1
     have n1:∀W,(binOp .neq 41 (.agg ST.zero.cells.toArray) (.agg #[.int .u64 0, .int .u64 0, .int .u64 0, .int .u64 0, .int .u64 0, .int .u64 0, .int .u64 0, .int .u64 0, .int .u64 0, .int .u64 0, .int .u64 0, .int .u64 0, .int .u64 0, .int .u64 0, .int .u64 0, .int .u64 0, .bool false, .bool false, .bool false, .bool false, .int .u64 0])).run Tryz.prog W= .ok (.bool false) W:=neq_zS
     have n2:=neq_zO
     have n3:=fun (xs ys:Array Value) (x y:Operand) W=>guard_S xs ys .neq x y W
     have n4:=fun (xs ys:Array Value) (x y:Operand) W=>guard_out xs ys .neq x y W
     go_upto_region 11 with (first
      |(refine SAt.loadG hs10 (.tmp 10) rfl rfl rfl ?_)
      |(refine SAt.loadG ht10 (.tmp 12) rfl rfl rfl ?_)
      |(refine SAt.loadG hu10 (.tmp 14) rfl rfl rfl ?_))
     go_wp2_with fail
     go_roundw
     case rel=>exact ⟨i+1,by omega,by go_num,HF2.out.trans HN10.out.fr⟩
     case measure=>simp [intOf]<;>omega
   ·obtain rfl:i=2:=by omega
    have q2:decide (((2:Nat):Int)<2)=false:=by decide
    go_wp2_with (go_at_call 11;(with_reducible refine (HR.out _ (HNB.out _ HF.out).2.1).mono ?_);rintro e w1 ⟨rfl,hf1⟩)
    go_ret
    exact ⟨rfl,(HNB.out _ HF.out).2.1.trans hf1⟩
end Go.Proofs.YtkjhfnfneopopaaGreatDoor
