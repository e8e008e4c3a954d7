/- (*World).Call. -/
import Derived.Test.YtkjhfnfneopopaaGreatDoorCore15
import Derived.Deep.RegionHeld3
import Derived.Deep.DeepCutAuto
import Derived.Deep.RegionWith
set_option linter.all false
set_option linter.unusedVariables false
set_option linter.unusedSimpArgs false
set_option maxRecDepth 100000
set_option maxHeartbeats 2000000
namespace Go.Proofs.YtkjhfnfneopopaaGreatDoor
open Go.RowKit
def five(a0 a1 a2 a3 a4:Int):Value:= .agg #[.int .u64 a0, .int .u64 a1, .int .u64 a2, .int .u64 a3, .int .u64 a4]
theorem fr_box(w:World)(o:Obj):Fr No w (w.alloc o):=(Fr.refl _ _).alloc _
theorem call_not(bw:Nat)(id a0 a1 a2 a3 a4:Int)(w:World)(h0:w.cell? ⟨bw,0,none⟩=some (.bool true))(ha:ArgsAt w)(hw:(Lit.int .i64 id).wf=true)(hno:argHas id=false):
  Calls Tryz.prog 88 #[.pointer (some ⟨bw,0,none⟩), .int .i64 id,five a0 a1 a2 a3 a4] w fun e w'=>e= .returned (.tuple #[.int .u64 0, .int .i64 45])∧Fr No w w':=by
 have HN:Hid (∀W,Fr No w W→Calls Tryz.prog 56 #[.pointer (some ⟨bw,0,none⟩)] W fun e w'=>e= .returned (.bool false)∧W=w'):=fun W hW=>hnone_any bw W (hW.cell h0 (fun h=>h))
 have HA:Hid (∀W,Fr No w W→Calls Tryz.prog 87 #[.int .i64 id] W fun e w'=>e= .returned (.int .i64 (-1))∧W=w'):=fun W hW=>by
  have:=args_any id W (ha.fr hW) hw
  unfold argA at this
  rw [hno] at this
  exact this
 clear h0 ha hno hw
 unfold five
 go_enter Tryz.func88,Tryz.ntmps88
 go_wp2_with (first
  |(go_at_call 56;(with_reducible refine (HN.out _ (fr_box _ _)).mono ?_);rintro e w1 ⟨rfl,rfl⟩)
  |(go_at_call 87;(with_reducible refine (HA.out _ (fr_box _ _)).mono ?_);rintro e w2 ⟨rfl,rfl⟩))
 go_ret2
 exact ⟨rfl,fr_box _ _⟩
theorem call_draw(bw:Nat)(d a0 a1 a2 a3 a4:Int)(P:World→World→Prop)(w:World)(h0:w.cell? ⟨bw,0,none⟩=some (.bool true))(ha:ArgsAt w)
  (hd:∀W,Fr No w W→Calls Tryz.prog 144 #[.pointer (some ⟨bw,0,none⟩)] W fun e w'=>e= .returned (.int .u64 d)∧P W w'):
  Calls Tryz.prog 88 #[.pointer (some ⟨bw,0,none⟩), .int .i64 7,five a0 a1 a2 a3 a4] w fun e w'=>e= .returned (.tuple #[.int .u64 d, .int .i64 0])∧∃W,Fr No w W∧P W w':=by
 have HN:Hid (∀W,Fr No w W→Calls Tryz.prog 56 #[.pointer (some ⟨bw,0,none⟩)] W fun e w'=>e= .returned (.bool false)∧W=w'):=fun W hW=>hnone_any bw W (hW.cell h0 (fun h=>h))
 have HA:Hid (∀W,Fr No w W→Calls Tryz.prog 87 #[.int .i64 7] W fun e w'=>e= .returned (.int .i64 0)∧W=w'):=fun W hW=>args_any 7 W (ha.fr hW) (by decide)
 have HD:=Lib.hid hd
 clear h0 ha hd
 unfold five
 go_enter Tryz.func88,Tryz.ntmps88
 go_wp2_with (first
  |(go_at_call 56;(with_reducible refine (HN.out _ (fr_box _ _)).mono ?_);rintro e w1 ⟨rfl,rfl⟩)
  |(go_at_call 87;(with_reducible refine (HA.out _ (fr_box _ _)).mono ?_);rintro e w2 ⟨rfl,rfl⟩)
  |(go_at_call 144;(with_reducible refine (HD.out _ (fr_box _ _)).mono ?_);rintro e w3 ⟨rfl,hP⟩))
 go_ret2
 exact ⟨rfl,_,fr_box _ _,hP⟩
structure CallW(bw b mb:Nat)(nm:Nat)(key value:Int)(gm om cm:Nat)(i:Nat)(W:World):Prop where
 c0:W.cell? ⟨bw,0,none⟩=some (.bool true)
 c1:W.cell? ⟨bw,1,none⟩=some (.slice (some ⟨gm,om,none⟩) nm cm)
 c4:W.cell? ⟨bw,4,none⟩=some (.pointer (some ⟨mb,0,none⟩))
 c5:W.cell? ⟨bw,5,none⟩=some (.pointer (some ⟨b,0,none⟩))
 key:W.cell? ⟨gm,om+i*4+1,none⟩=some (.int .i64 key)
 value:W.cell? ⟨gm,om+i*4+2,none⟩=some (.int .i64 value)
theorem CallW.fr{bw b mb nm gm om cm i:Nat}{key value:Int}{W W':World}(h:CallW bw b mb nm key value gm om cm i W)(hf:Fr No W W'):CallW bw b mb nm key value gm om cm i W':=
 ⟨hf.cell h.c0 (fun h=>h),hf.cell h.c1 (fun h=>h),hf.cell h.c4 (fun h=>h),hf.cell h.c5 (fun h=>h),hf.cell h.key (fun h=>h),hf.cell h.value (fun h=>h)⟩
theorem call_nomap(bw b nm:Nat)(id a0 a1 a2 a3 a4 x:Int)(w:World)(h0:w.cell? ⟨bw,0,none⟩=some (.bool true))(h5:w.cell? ⟨bw,5,none⟩=some (.pointer (some ⟨b,0,none⟩)))(ha:ArgsAt w)(hw:(Lit.int .i64 id).wf=true)(hid:id=1∨id=2∨id=3)
  (hlen:∀W,Fr No w W→Calls Tryz.prog 77 #[.pointer (some ⟨b,0,none⟩)] W fun e w'=>e= .returned (.int .i64 nm)∧W=w') (hnm:nm≤1000) (hx:IntKind.u64.wrap (a0-9437184)=x) (hge:(nm:Int)≤x):
  Calls Tryz.prog 88 #[.pointer (some ⟨bw,0,none⟩), .int .i64 id,five a0 a1 a2 a3 a4] w fun e w'=>e= .returned (.tuple #[.int .u64 0, .int .i64 2])∧Fr No w w':=by
 have HN:Hid (∀W,Fr No w W→Calls Tryz.prog 56 #[.pointer (some ⟨bw,0,none⟩)] W fun e w'=>e= .returned (.bool false)∧W=w'):=fun W hW=>hnone_any bw W (hW.cell h0 (fun h=>h))
 have HA:Hid (∀W,Fr No w W→Calls Tryz.prog 87 #[.int .i64 id] W fun e w'=>e= .returned (.int .i64 (argA id))∧W=w'):=fun W hW=>args_any id W (ha.fr hW) hw
 have q0:decide (argA id<0)=false:=by rcases hid with rfl|rfl|rfl<;>decide
 have q1:(id==7)=false:=by rcases hid with rfl|rfl|rfl<;>decide
 obtain ⟨A,hA⟩:∃A,argA id=A:=⟨_,rfl⟩
 rw [hA] at HA q0
 have HL:=Lib.hid hlen
 have f1:IntKind.u64.wrap (nm:Int)=nm:=u64_nat nm (by omega)
 have q2:decide (x≥(nm:Int))=true:=by simpa using hge
 have m5:∀W,Fr No w W→W.cell? ⟨bw,5,none⟩=some (.pointer (some ⟨b,0,none⟩)):=fun W hW=>hW.cell h5 (fun h=>h)
 have HM5:=Lib.hid m5
 clear h0 h5 ha hw hid hlen hnm hge hA m5
 unfold five
 go_enter Tryz.func88,Tryz.ntmps88
 go_upto_region 7 with (first
  |(go_at_call 56;(with_reducible refine (HN.out _ (fr_box _ _)).mono ?_);rintro e w1 ⟨rfl,rfl⟩)
  |(go_at_call 87;(with_reducible refine (HA.out _ (fr_box _ _)).mono ?_);rintro e w2 ⟨rfl,rfl⟩))
 obtain ⟨W0,hW0⟩:∃W0,W0=w.alloc (.cells #[.int .u64 a0, .int .u64 a1, .int .u64 a2, .int .u64 a3, .int .u64 a4] 182):=⟨_,rfl⟩
 have HF0:Hid (Fr No w W0):=by rw [hW0];exact Lib.hid (fr_box _ _)
 have z0:W0.cell? ⟨w.heap.size,0,none⟩=some (.int .u64 a0):=by subst hW0;go_simp
 have z5:=HM5.out W0 HF0.out
 have H0:W0.drew.cell? ⟨w.heap.size,0,none⟩=some (.int .u64 a0)∧W0.drew.cell? ⟨bw,5,none⟩=some (.pointer (some ⟨b,0,none⟩)):=⟨z0,z5⟩
 rw [←hW0]
 clear hW0 z0 z5
 go_region_held3 (fun W=>W.cell? ⟨w.heap.size,0,none⟩=some (.int .u64 a0)∧W.cell? ⟨bw,5,none⟩=some (.pointer (some ⟨b,0,none⟩))) (first|assumption|go_keep)
  (first
   |(go_at_call 77;(with_reducible refine (HL.out _ (HF0.out.drew)).mono ?_);rintro e w3 ⟨rfl,rfl⟩))
 all_goals go_wp2_with fail
 all_goals go_ret2
 all_goals exact ⟨rfl,HF0.out.drew⟩
end Go.Proofs.YtkjhfnfneopopaaGreatDoor
