/- package machine: in a world that is none. -/
import Derived.Test.YtkjhfnfneopopaaGreatDoorCore36
import Derived.Test.YtkjhfnfneopopaaGreatDoorHel22
set_option linter.all false
set_option linter.unusedVariables false
set_option linter.unusedSimpArgs false
set_option maxRecDepth 100000
set_option maxHeartbeats 2000000
namespace Go.Proofs.YtkjhfnfneopopaaGreatDoor
open Go.RowKit
theorem begin_none(q:Value)(w:World)(h:NW q w):Calls Tryz.prog 14 #[q] w fun e w'=>e= .returned (exV (.error 1))∧Fr No w w':=by
 have HN:Hid (∀W,Fr No w W→Calls Tryz.prog 19 #[q] W fun e w'=>e= .returned (.pointer none)∧W=w'):=fun W hW=>nw_memory q W (h.fr hW)
 have HS:Hid (∀t,SAt (w.alloc (.cells ST.zero.cells.toArray t)) w.heap.size ST.zero):=fun t=>SAt.new w ST.zero_ok t
 clear h
 go_enter Tryz.func14,Tryz.ntmps14
 go_upto_region 1 with fail
 refine wp_world (fun W1=>Hid (Fr No w W1∧SAt W1 w.heap.size ST.zero)) (by exact ⟨fr_alloc _ _,HS.out _⟩) ?_
 intro W1 HL
 clear HS
 go_wp2_with (first
  |(go_at_call 19;(with_reducible refine (HN.out _ HL.out.1).mono ?_);rintro e w1 ⟨rfl,rfl⟩)
  |(refine HL.out.2.store ST.zero_ok rfl (.tmp 2) (.tmp 8) rfl rfl rfl ?_;intro W9 h9 hf9))
 exact bodyPost_ret (results_st2 Tryz.results14 _ _ _ ST.zero h9 rfl) rfl ⟨rfl,((HL.out.1.any.trans (hf9.mono fun k _ hk=>by show w.heap.size≤k;omega)):Fr (From w) w W9).ours⟩
theorem step_none(q:Value)(x:XI)(next:Nat)(s:ST)(hs:s.ok)(w:World)(h:NW q w):Calls Tryz.prog 13 #[q,x.agg, .int .u64 next,s.agg] w fun e w'=>e= .returned (exV (.error 1))∧Fr No w w':=by
 have HN:Hid (∀W,Fr No w W→Calls Tryz.prog 19 #[q] W fun e w'=>e= .returned (.pointer none)∧W=w'):=fun W hW=>nw_memory q W (h.fr hW)
 have HE0:Hid (∀t1 t2 t3,_):=ESt.start (w:=w) (x:=x) hs
 clear h
 obtain ⟨k,a,c,z,wd,sh,d,r,dp,rl,im⟩:=x
 simp only [XI.agg,ST.agg] at*
 go_enter Tryz.func13,Tryz.ntmps13
 go_upto_region 1 with fail
 refine wp_world (fun W1=>Hid (ESt w w.heap.size ⟨k,a,c,z,wd,sh,d,r,dp,rl,im⟩ s W1)) (by exact HE0.out _ _ _) ?_
 intro W1 HL
 clear HE0
 go_wp2_with (first
  |(go_at_call 19;(with_reducible refine (HN.out _ HL.out.fr).mono ?_);rintro e w1 ⟨rfl,rfl⟩)
  |(refine HL.out.answer ST.zero_ok rfl (.tmp 8) (.tmp 17) rfl rfl rfl ?_;intro W9 HS9 HF9))
 exact bodyPost_ret (results_st2 Tryz.results13 _ _ _ ST.zero HS9.out rfl) rfl ⟨rfl,HF9.out⟩
structure RnN(w0:World)(s:ST)(a k:Int)(w:World):Prop where
 out:OB w w0.heap.size a k
 st:SAt w (w0.heap.size+1) s
 fr:Fr No w0 w
theorem RnN.start(w:World)(t1 t2:TypeId):RnN w ST.zero 0 0 ((w.alloc (.cells #[.int .u64 0, .int .i64 0] t1)).alloc (.cells ST.zero.cells.toArray t2)):=by
 obtain ⟨W1,hW1⟩:∃W1,W1=w.alloc (.cells #[.int .u64 0, .int .i64 0] t1):=⟨_,rfl⟩
 have z1:W1.heap.size=w.heap.size+1:=by rw [hW1,size_alloc]
 have c1:OB W1 w.heap.size 0 0:=by rw [hW1];exact ⟨CellsAt.new w [.int .u64 0, .int .i64 0] _,fun j=>World.frozen?_alloc_new _ _ _ _⟩
 have f1:Fr No w W1:=by rw [hW1];exact fr_alloc _ _
 rw [←hW1]
 exact ⟨c1.fr (fr_alloc _ _) (T:=No) id,by rw [←z1];exact SAt.new W1 ST.zero_ok _,f1.trans (fr_alloc _ _)⟩
theorem RnN.no{w0 w w':World}{s:ST}{a k:Int}(h:RnN w0 s a k w)(hf:Fr No w w'):RnN w0 s a k w':=⟨h.out.fr hf id,h.st.fr hf id,h.fr.trans hf⟩
theorem RnN.put{w0 w:World}{s:ST}{a k:Int}(h:RnN w0 s a k w)(a' k':Int):RnN w0 s a' k' ((w.setCell ⟨w0.heap.size,0,none⟩ (.int .u64 a')).setCell ⟨w0.heap.size,1,none⟩ (.int .i64 k')):=by
 have hf:Fr (fun k=>k=w0.heap.size) w ((w.setCell ⟨w0.heap.size,0,none⟩ (.int .u64 a')).setCell ⟨w0.heap.size,1,none⟩ (.int .i64 k')):=((Fr.refl (fun k=>k=w0.heap.size) w).setCell (p:=⟨w0.heap.size,0,none⟩) (.inr rfl) _).setCell (p:=⟨w0.heap.size,1,none⟩) (.inr rfl) _
 exact ⟨h.out.put a' k',h.st.fr hf (by omega),((h.fr.any.trans (hf.mono fun k _ hk=>by show w0.heap.size≤k;omega)):Fr (From w0) w0 _).ours⟩
theorem RnN.store{w0 w:World}{s:ST}{a0 k0:Int}(h:RnN w0 s a0 k0 w){t:ST}(ht:t.ok){ops:Array Oper}{rest:List Oper}{op:Oper}{a:Act}{Q:Exit→Act→World→Prop}(hgd:op.guard=none)(px py:Operand)(ho:op.op= .store 41 px py)
  (hx:a.eval px= .pointer (some ⟨w0.heap.size+1,0,none⟩)) (hy:a.eval py= .agg t.cells.toArray) (k:∀W',Hid (RnN w0 t a0 k0 W')→wpList Tryz.prog ops Q rest (a.put op.dst undef) W'):wpList Tryz.prog ops Q (op::rest) a w:=
 h.st.store ht hgd px py ho hx hy fun W' h1 h2=>k W' ⟨h.out.fr h2 (by omega),h1,((h.fr.any.trans (h2.mono fun k _ hk=>by show w0.heap.size≤k;omega)):Fr (From w0) w0 W').ours⟩
theorem run_none(q:Value)(code:List UInt8)(most:Int)(w:World)(h:NW q w):Calls Tryz.prog 12 #[q, .string (bA' code), .int .i64 most] w fun e w'=>e= .returned (runV (.error 1))∧Fr No w w':=by
 have HB:Hid (∀W,Fr No w W→Calls Tryz.prog 14 #[q] W fun e w'=>e= .returned (.tuple #[ST.zero.agg, .int .i64 1])∧Fr No W w'):=fun W hW=>begin_none q W (h.fr hW)
 have HS:Hid (∀t1 t2,_):=RnN.start w
 clear h
 go_enter Tryz.func12,Tryz.ntmps12
 go_upto_region 1 with fail
 refine wp_world (fun W1=>Hid (RnN w ST.zero 0 0 W1)) (by exact HS.out _ _) ?_
 intro W1 HL
 clear HS
 go_upto_region 2 with (first
  |(go_at_call 14;(with_reducible refine (HB.out _ HL.out.fr).mono ?_);rintro e w2 ⟨rfl,hf2⟩;replace HL:=Lib.hid (HL.out.no hf2);clear hf2)
  |(refine HL.out.store ST.zero_ok rfl (.tmp 7) (.tmp 15) rfl rfl rfl ?_;intro W8 HL))
 have oo:=HL.out.out.open_
 obtain ⟨r0,r1⟩:=HL.out.out.at
 have HLP:=Lib.hid (HL.out.put 0 0)
 go_wp2_with fail
 refine wp_loop_rounds 1 ?_
 rw [rounds_succ]
 go_wp2_with (refine HLP.out.store ST.zero_ok rfl (.tmp 7) (.tmp 52) rfl rfl rfl ?_;intro W9 HL)
 exact bodyPost_ret (results_run Tryz.results12 _ _ _ _ 0 0 ST.zero HL.out.out HL.out.st rfl rfl) rfl ⟨rfl,HL.out.fr⟩
end Go.Proofs.YtkjhfnfneopopaaGreatDoor
