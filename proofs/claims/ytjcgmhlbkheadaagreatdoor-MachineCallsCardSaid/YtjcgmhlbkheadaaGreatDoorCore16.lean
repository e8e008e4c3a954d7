/- (*World).Call, the ways that reach a map (printed by mkcall.py). Call over a world: a draw. -/
import Derived.Test.YtjcgmhlbkheadaaGreatDoorCore15
set_option linter.all false
set_option linter.unusedVariables false
set_option linter.unusedSimpArgs false
set_option maxRecDepth 100000
set_option maxHeartbeats 4000000
namespace Go.Proofs.YtjcgmhlbkheadaaGreatDoor
open Go.RowKit
theorem call_nokey(bw b mb nm gm om cm i:Nat)(key value a0 a1 a2 a3 a4 id kerr:Int)(K:ByteArray)(w:World)(h:CallW bw b mb nm key value gm om cm i w)(ha:ArgsAt w)(hw:(Lit.int .i64 id).wf=true)(hid:id=1∨id=2∨id=3)
  (hlen:∀W,Fr No w W→Calls Tryz.prog 73 #[.pointer (some ⟨b,0,none⟩)] W fun e w'=>e= .returned (.int .i64 nm)∧W=w') (hnm:nm≤1000) (hx:IntKind.u64.wrap (a0-9437184)=i) (hi:i<nm)
  (ht:∀W,Fr No w W→Calls Tryz.prog 11 #[.pointer (some ⟨mb,0,none⟩), .int .u64 a1, .int .i64 key] W fun e w'=>e= .returned (.tuple #[.string K, .int .i64 kerr])∧Fr No W w') (hk:(kerr==0)=false):
  Calls Tryz.prog 67 #[.pointer (some ⟨bw,0,none⟩), .int .i64 id,five a0 a1 a2 a3 a4] w fun e w'=>e= .returned (.tuple #[.int .u64 0, .int .i64 kerr])∧Fr No w w':=by
 have HN:Hid (∀W,Fr No w W→Calls Tryz.prog 30 #[.pointer (some ⟨bw,0,none⟩)] W fun e w'=>e= .returned (.bool false)∧W=w'):=fun W hW=>hnone_any bw W (hW.cell h.c0 (fun h=>h))
 have HA:Hid (∀W,Fr No w W→Calls Tryz.prog 66 #[.int .i64 id] W fun e w'=>e= .returned (.int .i64 (argA id))∧W=w'):=fun W hW=>args_any id W (ha.fr hW) hw
 have q0:decide (argA id<0)=false:=by rcases hid with rfl|rfl|rfl<;>decide
 have q1:(id==7)=false:=by rcases hid with rfl|rfl|rfl<;>decide
 obtain ⟨A,hA⟩:∃A,argA id=A:=⟨_,rfl⟩
 rw [hA] at HA q0
 have HL:=Lib.hid hlen
 have HT:=Lib.hid ht
 have f1:IntKind.u64.wrap (nm:Int)=nm:=u64_nat nm (by omega)
 have f2:IntKind.i64.wrap (i:Int)=i:=IntWalk.i64_in _ (by omega)
 have q2:decide ((i:Int)≥(nm:Int))=false:=by simp;omega
 have c1:(0:Int)≤(i:Int):=by omega
 have c2:(i:Int)<(nm:Int):=by omega
 have HM:Hid (∀W,Fr No w W→CallW bw b mb nm key value gm om cm i W):=fun W hW=>h.fr hW
 clear hid hw
 clear h ha hlen hnm hA hi ht
 unfold five
 go_enter Tryz.func67,Tryz.ntmps67
 go_upto_region 7 with (first
  |(go_at_call 30;(with_reducible refine (HN.out _ (fr_box _ _)).mono ?_);rintro e w1 ⟨rfl,rfl⟩)
  |(go_at_call 66;(with_reducible refine (HA.out _ (fr_box _ _)).mono ?_);rintro e w2 ⟨rfl,rfl⟩))
 obtain ⟨W0,hW0⟩:∃W0,W0=w.alloc (.cells #[.int .u64 a0, .int .u64 a1, .int .u64 a2, .int .u64 a3, .int .u64 a4] 156):=⟨_,rfl⟩
 have HF0:Hid (Fr No w W0):=by rw [hW0];exact Lib.hid (fr_box _ _)
 have HZ:Hid (∀W,Fr No W0 W→W.cell? ⟨w.heap.size,0,none⟩=some (.int .u64 a0)∧W.cell? ⟨w.heap.size,1,none⟩=some (.int .u64 a1)∧W.cell? ⟨w.heap.size,2,none⟩=some (.int .u64 a2)∧W.cell? ⟨w.heap.size,3,none⟩=some (.int .u64 a3)):=fun W hW=>by
  subst hW0
  refine ⟨hW.cell ?_ (fun h=>h),hW.cell ?_ (fun h=>h),hW.cell ?_ (fun h=>h),hW.cell ?_ (fun h=>h)⟩<;>go_simp
 have H0:W0.drew.cell? ⟨w.heap.size,0,none⟩=some (.int .u64 a0)∧W0.drew.cell? ⟨bw,5,none⟩=some (.pointer (some ⟨b,0,none⟩)):=⟨(HZ.out _ (Fr.refl _ _)).1,(HM.out W0 HF0.out).c5⟩
 rw [←hW0]
 clear hW0
 go_region_held3 (fun W=>W.cell? ⟨w.heap.size,0,none⟩=some (.int .u64 a0)∧W.cell? ⟨bw,5,none⟩=some (.pointer (some ⟨b,0,none⟩))) (first|assumption|go_keep)
  (first
   |(go_at_call 73;(with_reducible refine (HL.out _ (HF0.out.drew)).mono ?_);rintro e w3 ⟨rfl,rfl⟩))
 obtain ⟨z0,z1,z2,z3⟩:=HZ.out W0.drew ((Fr.refl _ _).drew)
 obtain ⟨d0,d1,d4,d5,dk,dv⟩:=HM.out W0.drew HF0.out.drew
 have HF1:Hid (Fr No w W0.drew):=Lib.hid HF0.out.drew
 clear HN HA HL
 go_upto_region 10 with fail
 have H1:W0.drew.drew.cell? ⟨bw,4,none⟩=some (.pointer (some ⟨mb,0,none⟩))∧W0.drew.drew.cell? ⟨w.heap.size,1,none⟩=some (.int .u64 a1)∧W0.drew.drew.cell? ⟨bw,1,none⟩=some (.slice (some ⟨gm,om,none⟩) nm cm)∧W0.drew.drew.cell? ⟨gm,om+i*4+1,none⟩=some (.int .i64 key)∧Hid (Fr No W0 W0.drew.drew):=⟨d4,z1,d1,dk,((Fr.refl _ _).drew).drew⟩
 have HK1:Hid (∀W,Fr No W0.drew.drew W→W.cell? ⟨bw,4,none⟩=some (.pointer (some ⟨mb,0,none⟩))∧W.cell? ⟨w.heap.size,1,none⟩=some (.int .u64 a1)∧W.cell? ⟨bw,1,none⟩=some (.slice (some ⟨gm,om,none⟩) nm cm)∧W.cell? ⟨gm,om+i*4+1,none⟩=some (.int .i64 key)∧Hid (Fr No W0 W)):=fun W hW=>by
  have hf:Fr No W0 W:=(((Fr.refl _ _).drew).drew).trans hW
  have hm:=HM.out W (HF0.out.trans hf)
  exact ⟨hm.c4,(HZ.out W hf).2.1,hm.c1,hm.key,hf⟩
 clear z0 z1 z2 z3 d0 d1 d4 d5 dk dv
 go_region_held3 (fun W=>W.cell? ⟨bw,4,none⟩=some (.pointer (some ⟨mb,0,none⟩))∧W.cell? ⟨w.heap.size,1,none⟩=some (.int .u64 a1)∧W.cell? ⟨bw,1,none⟩=some (.slice (some ⟨gm,om,none⟩) nm cm)∧W.cell? ⟨gm,om+i*4+1,none⟩=some (.int .i64 key)∧Hid (Fr No W0 W)) (first|assumption|exact HK1.out _ (by assumption))
  (first
   |(go_at_call 11;(with_reducible refine (HT.out _ (HF1.out.drew)).mono ?_);rintro e w4 ⟨rfl,hf4⟩))
 have HF4:Hid (Fr No w w4):=Lib.hid ((HF1.out.drew).trans hf4)
 have HF04:Hid (Fr No W0 w4):=Lib.hid ((((Fr.refl _ _).drew).drew).trans hf4)
 obtain ⟨z0,z1,z2,z3⟩:=HZ.out w4 HF04.out
 obtain ⟨d0,d1,d4,d5,dk,dv⟩:=HM.out w4 HF4.out
 clear hf4
 go_wp2_with fail
 go_ret2
 exact ⟨rfl,HF4.out⟩
theorem call_lookup(bw b mb nm gm om cm i:Nat)(key value a0 a1 a2 a3 a4 r:Int)(K:ByteArray)(w:World)(h:CallW bw b mb nm key value gm om cm i w)(ha:ArgsAt w)
  (hlen:∀W,Fr No w W→Calls Tryz.prog 73 #[.pointer (some ⟨b,0,none⟩)] W fun e w'=>e= .returned (.int .i64 nm)∧W=w') (hnm:nm≤1000) (hx:IntKind.u64.wrap (a0-9437184)=i) (hi:i<nm)
  (ht:∀W,Fr No w W→Calls Tryz.prog 11 #[.pointer (some ⟨mb,0,none⟩), .int .u64 a1, .int .i64 key] W fun e w'=>e= .returned (.tuple #[.string K, .int .i64 0])∧Fr No W w')
  (hl:∀W,Fr No w W→Calls Tryz.prog 14 #[.pointer (some ⟨b,0,none⟩), .int .i64 i, .string K] W fun e w'=>e= .returned (.int .u64 r)∧Fr No W w'):
  Calls Tryz.prog 67 #[.pointer (some ⟨bw,0,none⟩), .int .i64 1,five a0 a1 a2 a3 a4] w fun e w'=>e= .returned (.tuple #[.int .u64 r, .int .i64 0])∧Fr No w w':=by
 have HN:Hid (∀W,Fr No w W→Calls Tryz.prog 30 #[.pointer (some ⟨bw,0,none⟩)] W fun e w'=>e= .returned (.bool false)∧W=w'):=fun W hW=>hnone_any bw W (hW.cell h.c0 (fun h=>h))
 have HA:Hid (∀W,Fr No w W→Calls Tryz.prog 66 #[.int .i64 1] W fun e w'=>e= .returned (.int .i64 (argA 1))∧W=w'):=fun W hW=>args_any 1 W (ha.fr hW) (by decide)
 have q0:decide (argA 1<0)=false:=by decide
 have q1:((1:Int)==7)=false:=by decide
 obtain ⟨A,hA⟩:∃A,argA 1=A:=⟨_,rfl⟩
 rw [hA] at HA q0
 have HL:=Lib.hid hlen
 have HT:=Lib.hid ht
 have f1:IntKind.u64.wrap (nm:Int)=nm:=u64_nat nm (by omega)
 have f2:IntKind.i64.wrap (i:Int)=i:=IntWalk.i64_in _ (by omega)
 have q2:decide ((i:Int)≥(nm:Int))=false:=by simp;omega
 have c1:(0:Int)≤(i:Int):=by omega
 have c2:(i:Int)<(nm:Int):=by omega
 have HM:Hid (∀W,Fr No w W→CallW bw b mb nm key value gm om cm i W):=fun W hW=>h.fr hW
 have HLK:=Lib.hid hl
 clear hl
 clear h ha hlen hnm hA hi ht
 unfold five
 go_enter Tryz.func67,Tryz.ntmps67
 go_upto_region 7 with (first
  |(go_at_call 30;(with_reducible refine (HN.out _ (fr_box _ _)).mono ?_);rintro e w1 ⟨rfl,rfl⟩)
  |(go_at_call 66;(with_reducible refine (HA.out _ (fr_box _ _)).mono ?_);rintro e w2 ⟨rfl,rfl⟩))
 obtain ⟨W0,hW0⟩:∃W0,W0=w.alloc (.cells #[.int .u64 a0, .int .u64 a1, .int .u64 a2, .int .u64 a3, .int .u64 a4] 156):=⟨_,rfl⟩
 have HF0:Hid (Fr No w W0):=by rw [hW0];exact Lib.hid (fr_box _ _)
 have HZ:Hid (∀W,Fr No W0 W→W.cell? ⟨w.heap.size,0,none⟩=some (.int .u64 a0)∧W.cell? ⟨w.heap.size,1,none⟩=some (.int .u64 a1)∧W.cell? ⟨w.heap.size,2,none⟩=some (.int .u64 a2)∧W.cell? ⟨w.heap.size,3,none⟩=some (.int .u64 a3)):=fun W hW=>by
  subst hW0
  refine ⟨hW.cell ?_ (fun h=>h),hW.cell ?_ (fun h=>h),hW.cell ?_ (fun h=>h),hW.cell ?_ (fun h=>h)⟩<;>go_simp
 have H0:W0.drew.cell? ⟨w.heap.size,0,none⟩=some (.int .u64 a0)∧W0.drew.cell? ⟨bw,5,none⟩=some (.pointer (some ⟨b,0,none⟩)):=⟨(HZ.out _ (Fr.refl _ _)).1,(HM.out W0 HF0.out).c5⟩
 rw [←hW0]
 clear hW0
 go_region_held3 (fun W=>W.cell? ⟨w.heap.size,0,none⟩=some (.int .u64 a0)∧W.cell? ⟨bw,5,none⟩=some (.pointer (some ⟨b,0,none⟩))) (first|assumption|go_keep)
  (first
   |(go_at_call 73;(with_reducible refine (HL.out _ (HF0.out.drew)).mono ?_);rintro e w3 ⟨rfl,rfl⟩))
 obtain ⟨z0,z1,z2,z3⟩:=HZ.out W0.drew ((Fr.refl _ _).drew)
 obtain ⟨d0,d1,d4,d5,dk,dv⟩:=HM.out W0.drew HF0.out.drew
 have HF1:Hid (Fr No w W0.drew):=Lib.hid HF0.out.drew
 clear HN HA HL
 go_upto_region 10 with fail
 have H1:W0.drew.drew.cell? ⟨bw,4,none⟩=some (.pointer (some ⟨mb,0,none⟩))∧W0.drew.drew.cell? ⟨w.heap.size,1,none⟩=some (.int .u64 a1)∧W0.drew.drew.cell? ⟨bw,1,none⟩=some (.slice (some ⟨gm,om,none⟩) nm cm)∧W0.drew.drew.cell? ⟨gm,om+i*4+1,none⟩=some (.int .i64 key)∧Hid (Fr No W0 W0.drew.drew):=⟨d4,z1,d1,dk,((Fr.refl _ _).drew).drew⟩
 have HK1:Hid (∀W,Fr No W0.drew.drew W→W.cell? ⟨bw,4,none⟩=some (.pointer (some ⟨mb,0,none⟩))∧W.cell? ⟨w.heap.size,1,none⟩=some (.int .u64 a1)∧W.cell? ⟨bw,1,none⟩=some (.slice (some ⟨gm,om,none⟩) nm cm)∧W.cell? ⟨gm,om+i*4+1,none⟩=some (.int .i64 key)∧Hid (Fr No W0 W)):=fun W hW=>by
  have hf:Fr No W0 W:=(((Fr.refl _ _).drew).drew).trans hW
  have hm:=HM.out W (HF0.out.trans hf)
  exact ⟨hm.c4,(HZ.out W hf).2.1,hm.c1,hm.key,hf⟩
 clear z0 z1 z2 z3 d0 d1 d4 d5 dk dv
 go_region_held3 (fun W=>W.cell? ⟨bw,4,none⟩=some (.pointer (some ⟨mb,0,none⟩))∧W.cell? ⟨w.heap.size,1,none⟩=some (.int .u64 a1)∧W.cell? ⟨bw,1,none⟩=some (.slice (some ⟨gm,om,none⟩) nm cm)∧W.cell? ⟨gm,om+i*4+1,none⟩=some (.int .i64 key)∧Hid (Fr No W0 W)) (first|assumption|exact HK1.out _ (by assumption))
  (first
   |(go_at_call 11;(with_reducible refine (HT.out _ (HF1.out.drew)).mono ?_);rintro e w4 ⟨rfl,hf4⟩))
 have HF4:Hid (Fr No w w4):=Lib.hid ((HF1.out.drew).trans hf4)
 have HF04:Hid (Fr No W0 w4):=Lib.hid ((((Fr.refl _ _).drew).drew).trans hf4)
 obtain ⟨z0,z1,z2,z3⟩:=HZ.out w4 HF04.out
 obtain ⟨d0,d1,d4,d5,dk,dv⟩:=HM.out w4 HF4.out
 clear hf4
 go_wp2_with (go_at_call 14;(with_reducible refine (HLK.out _ HF4.out).mono ?_);rintro e w5 ⟨rfl,hf5⟩)
 go_ret2
 exact ⟨rfl,HF4.out.trans hf5⟩
theorem call_delete(bw b mb nm gm om cm i:Nat)(key value a0 a1 a2 a3 a4 r ru:Int)(K:ByteArray)(P:World→World→Prop)(w:World)(h:CallW bw b mb nm key value gm om cm i w)(ha:ArgsAt w)
  (hlen:∀W,Fr No w W→Calls Tryz.prog 73 #[.pointer (some ⟨b,0,none⟩)] W fun e w'=>e= .returned (.int .i64 nm)∧W=w') (hnm:nm≤1000) (hx:IntKind.u64.wrap (a0-9437184)=i) (hi:i<nm)
  (ht:∀W,Fr No w W→Calls Tryz.prog 11 #[.pointer (some ⟨mb,0,none⟩), .int .u64 a1, .int .i64 key] W fun e w'=>e= .returned (.tuple #[.string K, .int .i64 0])∧Fr No W w')
  (hr:IntKind.u64.wrap r=ru) (hl:∀W,Fr No w W→Calls Tryz.prog 100 #[.pointer (some ⟨b,0,none⟩), .int .i64 i, .string K] W fun e w'=>e= .returned (.int .i64 r)∧P W w'):
  Calls Tryz.prog 67 #[.pointer (some ⟨bw,0,none⟩), .int .i64 3,five a0 a1 a2 a3 a4] w fun e w'=>e= .returned (.tuple #[.int .u64 ru, .int .i64 0])∧∃W,Fr No w W∧P W w':=by
 have HN:Hid (∀W,Fr No w W→Calls Tryz.prog 30 #[.pointer (some ⟨bw,0,none⟩)] W fun e w'=>e= .returned (.bool false)∧W=w'):=fun W hW=>hnone_any bw W (hW.cell h.c0 (fun h=>h))
 have HA:Hid (∀W,Fr No w W→Calls Tryz.prog 66 #[.int .i64 3] W fun e w'=>e= .returned (.int .i64 (argA 3))∧W=w'):=fun W hW=>args_any 3 W (ha.fr hW) (by decide)
 have q0:decide (argA 3<0)=false:=by decide
 have q1:((3:Int)==7)=false:=by decide
 obtain ⟨A,hA⟩:∃A,argA 3=A:=⟨_,rfl⟩
 rw [hA] at HA q0
 have HL:=Lib.hid hlen
 have HT:=Lib.hid ht
 have f1:IntKind.u64.wrap (nm:Int)=nm:=u64_nat nm (by omega)
 have f2:IntKind.i64.wrap (i:Int)=i:=IntWalk.i64_in _ (by omega)
 have q2:decide ((i:Int)≥(nm:Int))=false:=by simp;omega
 have c1:(0:Int)≤(i:Int):=by omega
 have c2:(i:Int)<(nm:Int):=by omega
 have HM:Hid (∀W,Fr No w W→CallW bw b mb nm key value gm om cm i W):=fun W hW=>h.fr hW
 have HLK:=Lib.hid hl
 clear hl
 clear h ha hlen hnm hA hi ht
 unfold five
 go_enter Tryz.func67,Tryz.ntmps67
 go_upto_region 7 with (first
  |(go_at_call 30;(with_reducible refine (HN.out _ (fr_box _ _)).mono ?_);rintro e w1 ⟨rfl,rfl⟩)
  |(go_at_call 66;(with_reducible refine (HA.out _ (fr_box _ _)).mono ?_);rintro e w2 ⟨rfl,rfl⟩))
 obtain ⟨W0,hW0⟩:∃W0,W0=w.alloc (.cells #[.int .u64 a0, .int .u64 a1, .int .u64 a2, .int .u64 a3, .int .u64 a4] 156):=⟨_,rfl⟩
 have HF0:Hid (Fr No w W0):=by rw [hW0];exact Lib.hid (fr_box _ _)
 have HZ:Hid (∀W,Fr No W0 W→W.cell? ⟨w.heap.size,0,none⟩=some (.int .u64 a0)∧W.cell? ⟨w.heap.size,1,none⟩=some (.int .u64 a1)∧W.cell? ⟨w.heap.size,2,none⟩=some (.int .u64 a2)∧W.cell? ⟨w.heap.size,3,none⟩=some (.int .u64 a3)):=fun W hW=>by
  subst hW0
  refine ⟨hW.cell ?_ (fun h=>h),hW.cell ?_ (fun h=>h),hW.cell ?_ (fun h=>h),hW.cell ?_ (fun h=>h)⟩<;>go_simp
 have H0:W0.drew.cell? ⟨w.heap.size,0,none⟩=some (.int .u64 a0)∧W0.drew.cell? ⟨bw,5,none⟩=some (.pointer (some ⟨b,0,none⟩)):=⟨(HZ.out _ (Fr.refl _ _)).1,(HM.out W0 HF0.out).c5⟩
 rw [←hW0]
 clear hW0
 go_region_held3 (fun W=>W.cell? ⟨w.heap.size,0,none⟩=some (.int .u64 a0)∧W.cell? ⟨bw,5,none⟩=some (.pointer (some ⟨b,0,none⟩))) (first|assumption|go_keep)
  (first
   |(go_at_call 73;(with_reducible refine (HL.out _ (HF0.out.drew)).mono ?_);rintro e w3 ⟨rfl,rfl⟩))
 obtain ⟨z0,z1,z2,z3⟩:=HZ.out W0.drew ((Fr.refl _ _).drew)
 obtain ⟨d0,d1,d4,d5,dk,dv⟩:=HM.out W0.drew HF0.out.drew
 have HF1:Hid (Fr No w W0.drew):=Lib.hid HF0.out.drew
 clear HN HA HL
 go_upto_region 10 with fail
 have H1:W0.drew.drew.cell? ⟨bw,4,none⟩=some (.pointer (some ⟨mb,0,none⟩))∧W0.drew.drew.cell? ⟨w.heap.size,1,none⟩=some (.int .u64 a1)∧W0.drew.drew.cell? ⟨bw,1,none⟩=some (.slice (some ⟨gm,om,none⟩) nm cm)∧W0.drew.drew.cell? ⟨gm,om+i*4+1,none⟩=some (.int .i64 key)∧Hid (Fr No W0 W0.drew.drew):=⟨d4,z1,d1,dk,((Fr.refl _ _).drew).drew⟩
 have HK1:Hid (∀W,Fr No W0.drew.drew W→W.cell? ⟨bw,4,none⟩=some (.pointer (some ⟨mb,0,none⟩))∧W.cell? ⟨w.heap.size,1,none⟩=some (.int .u64 a1)∧W.cell? ⟨bw,1,none⟩=some (.slice (some ⟨gm,om,none⟩) nm cm)∧W.cell? ⟨gm,om+i*4+1,none⟩=some (.int .i64 key)∧Hid (Fr No W0 W)):=fun W hW=>by
  have hf:Fr No W0 W:=(((Fr.refl _ _).drew).drew).trans hW
  have hm:=HM.out W (HF0.out.trans hf)
  exact ⟨hm.c4,(HZ.out W hf).2.1,hm.c1,hm.key,hf⟩
 clear z0 z1 z2 z3 d0 d1 d4 d5 dk dv
 go_region_held3 (fun W=>W.cell? ⟨bw,4,none⟩=some (.pointer (some ⟨mb,0,none⟩))∧W.cell? ⟨w.heap.size,1,none⟩=some (.int .u64 a1)∧W.cell? ⟨bw,1,none⟩=some (.slice (some ⟨gm,om,none⟩) nm cm)∧W.cell? ⟨gm,om+i*4+1,none⟩=some (.int .i64 key)∧Hid (Fr No W0 W)) (first|assumption|exact HK1.out _ (by assumption))
  (first
   |(go_at_call 11;(with_reducible refine (HT.out _ (HF1.out.drew)).mono ?_);rintro e w4 ⟨rfl,hf4⟩))
 have HF4:Hid (Fr No w w4):=Lib.hid ((HF1.out.drew).trans hf4)
 have HF04:Hid (Fr No W0 w4):=Lib.hid ((((Fr.refl _ _).drew).drew).trans hf4)
 obtain ⟨z0,z1,z2,z3⟩:=HZ.out w4 HF04.out
 obtain ⟨d0,d1,d4,d5,dk,dv⟩:=HM.out w4 HF4.out
 clear hf4
 go_wp2_with (go_at_call 100;(with_reducible refine (HLK.out _ HF4.out).mono ?_);rintro e w5 ⟨rfl,hf5⟩)
 go_ret2
 exact ⟨rfl,w4,HF4.out,hf5⟩
theorem call_noval(bw b mb nm gm om cm i:Nat)(key value a0 a1 a2 a3 a4 verr:Int)(K V:ByteArray)(w:World)(h:CallW bw b mb nm key value gm om cm i w)(ha:ArgsAt w)
  (hlen:∀W,Fr No w W→Calls Tryz.prog 73 #[.pointer (some ⟨b,0,none⟩)] W fun e w'=>e= .returned (.int .i64 nm)∧W=w') (hnm:nm≤1000) (hx:IntKind.u64.wrap (a0-9437184)=i) (hi:i<nm)
  (ht:∀W,Fr No w W→Calls Tryz.prog 11 #[.pointer (some ⟨mb,0,none⟩), .int .u64 a1, .int .i64 key] W fun e w'=>e= .returned (.tuple #[.string K, .int .i64 0])∧Fr No W w')
  (hv:∀W,Fr No w W→Calls Tryz.prog 11 #[.pointer (some ⟨mb,0,none⟩), .int .u64 a2, .int .i64 value] W fun e w'=>e= .returned (.tuple #[.string V, .int .i64 verr])∧Fr No W w') (hk:(verr==0)=false):
  Calls Tryz.prog 67 #[.pointer (some ⟨bw,0,none⟩), .int .i64 2,five a0 a1 a2 a3 a4] w fun e w'=>e= .returned (.tuple #[.int .u64 0, .int .i64 verr])∧Fr No w w':=by
 have HN:Hid (∀W,Fr No w W→Calls Tryz.prog 30 #[.pointer (some ⟨bw,0,none⟩)] W fun e w'=>e= .returned (.bool false)∧W=w'):=fun W hW=>hnone_any bw W (hW.cell h.c0 (fun h=>h))
 have HA:Hid (∀W,Fr No w W→Calls Tryz.prog 66 #[.int .i64 2] W fun e w'=>e= .returned (.int .i64 (argA 2))∧W=w'):=fun W hW=>args_any 2 W (ha.fr hW) (by decide)
 have q0:decide (argA 2<0)=false:=by decide
 have q1:((2:Int)==7)=false:=by decide
 obtain ⟨A,hA⟩:∃A,argA 2=A:=⟨_,rfl⟩
 rw [hA] at HA q0
 have HL:=Lib.hid hlen
 have HT:=Lib.hid ht
 have f1:IntKind.u64.wrap (nm:Int)=nm:=u64_nat nm (by omega)
 have f2:IntKind.i64.wrap (i:Int)=i:=IntWalk.i64_in _ (by omega)
 have q2:decide ((i:Int)≥(nm:Int))=false:=by simp;omega
 have c1:(0:Int)≤(i:Int):=by omega
 have c2:(i:Int)<(nm:Int):=by omega
 have HM:Hid (∀W,Fr No w W→CallW bw b mb nm key value gm om cm i W):=fun W hW=>h.fr hW
 have HT2:=Lib.hid hv
 clear hv
 clear h ha hlen hnm hA hi ht
 unfold five
 go_enter Tryz.func67,Tryz.ntmps67
 go_upto_region 7 with (first
  |(go_at_call 30;(with_reducible refine (HN.out _ (fr_box _ _)).mono ?_);rintro e w1 ⟨rfl,rfl⟩)
  |(go_at_call 66;(with_reducible refine (HA.out _ (fr_box _ _)).mono ?_);rintro e w2 ⟨rfl,rfl⟩))
 obtain ⟨W0,hW0⟩:∃W0,W0=w.alloc (.cells #[.int .u64 a0, .int .u64 a1, .int .u64 a2, .int .u64 a3, .int .u64 a4] 156):=⟨_,rfl⟩
 have HF0:Hid (Fr No w W0):=by rw [hW0];exact Lib.hid (fr_box _ _)
 have HZ:Hid (∀W,Fr No W0 W→W.cell? ⟨w.heap.size,0,none⟩=some (.int .u64 a0)∧W.cell? ⟨w.heap.size,1,none⟩=some (.int .u64 a1)∧W.cell? ⟨w.heap.size,2,none⟩=some (.int .u64 a2)∧W.cell? ⟨w.heap.size,3,none⟩=some (.int .u64 a3)):=fun W hW=>by
  subst hW0
  refine ⟨hW.cell ?_ (fun h=>h),hW.cell ?_ (fun h=>h),hW.cell ?_ (fun h=>h),hW.cell ?_ (fun h=>h)⟩<;>go_simp
 have H0:W0.drew.cell? ⟨w.heap.size,0,none⟩=some (.int .u64 a0)∧W0.drew.cell? ⟨bw,5,none⟩=some (.pointer (some ⟨b,0,none⟩)):=⟨(HZ.out _ (Fr.refl _ _)).1,(HM.out W0 HF0.out).c5⟩
 rw [←hW0]
 clear hW0
 go_region_held3 (fun W=>W.cell? ⟨w.heap.size,0,none⟩=some (.int .u64 a0)∧W.cell? ⟨bw,5,none⟩=some (.pointer (some ⟨b,0,none⟩))) (first|assumption|go_keep)
  (first
   |(go_at_call 73;(with_reducible refine (HL.out _ (HF0.out.drew)).mono ?_);rintro e w3 ⟨rfl,rfl⟩))
 obtain ⟨z0,z1,z2,z3⟩:=HZ.out W0.drew ((Fr.refl _ _).drew)
 obtain ⟨d0,d1,d4,d5,dk,dv⟩:=HM.out W0.drew HF0.out.drew
 have HF1:Hid (Fr No w W0.drew):=Lib.hid HF0.out.drew
 clear HN HA HL
 go_upto_region 10 with fail
 have H1:W0.drew.drew.cell? ⟨bw,4,none⟩=some (.pointer (some ⟨mb,0,none⟩))∧W0.drew.drew.cell? ⟨w.heap.size,1,none⟩=some (.int .u64 a1)∧W0.drew.drew.cell? ⟨bw,1,none⟩=some (.slice (some ⟨gm,om,none⟩) nm cm)∧W0.drew.drew.cell? ⟨gm,om+i*4+1,none⟩=some (.int .i64 key)∧Hid (Fr No W0 W0.drew.drew):=⟨d4,z1,d1,dk,((Fr.refl _ _).drew).drew⟩
 have HK1:Hid (∀W,Fr No W0.drew.drew W→W.cell? ⟨bw,4,none⟩=some (.pointer (some ⟨mb,0,none⟩))∧W.cell? ⟨w.heap.size,1,none⟩=some (.int .u64 a1)∧W.cell? ⟨bw,1,none⟩=some (.slice (some ⟨gm,om,none⟩) nm cm)∧W.cell? ⟨gm,om+i*4+1,none⟩=some (.int .i64 key)∧Hid (Fr No W0 W)):=fun W hW=>by
  have hf:Fr No W0 W:=(((Fr.refl _ _).drew).drew).trans hW
  have hm:=HM.out W (HF0.out.trans hf)
  exact ⟨hm.c4,(HZ.out W hf).2.1,hm.c1,hm.key,hf⟩
 clear z0 z1 z2 z3 d0 d1 d4 d5 dk dv
 go_region_held3 (fun W=>W.cell? ⟨bw,4,none⟩=some (.pointer (some ⟨mb,0,none⟩))∧W.cell? ⟨w.heap.size,1,none⟩=some (.int .u64 a1)∧W.cell? ⟨bw,1,none⟩=some (.slice (some ⟨gm,om,none⟩) nm cm)∧W.cell? ⟨gm,om+i*4+1,none⟩=some (.int .i64 key)∧Hid (Fr No W0 W)) (first|assumption|exact HK1.out _ (by assumption))
  (first
   |(go_at_call 11;(with_reducible refine (HT.out _ (HF1.out.drew)).mono ?_);rintro e w4 ⟨rfl,hf4⟩))
 have HF4:Hid (Fr No w w4):=Lib.hid ((HF1.out.drew).trans hf4)
 have HF04:Hid (Fr No W0 w4):=Lib.hid ((((Fr.refl _ _).drew).drew).trans hf4)
 obtain ⟨z0,z1,z2,z3⟩:=HZ.out w4 HF04.out
 obtain ⟨d0,d1,d4,d5,dk,dv⟩:=HM.out w4 HF4.out
 clear hf4
 have HF14:Hid (Fr No w w4.drew):=Lib.hid HF4.out.drew
 have HF15:Hid (Fr No W0 w4.drew):=Lib.hid HF04.out.drew
 go_upto_region 18 with fail
 have H2:w4.drew.cell? ⟨bw,4,none⟩=some (.pointer (some ⟨mb,0,none⟩))∧w4.drew.cell? ⟨w.heap.size,2,none⟩=some (.int .u64 a2)∧w4.drew.cell? ⟨bw,1,none⟩=some (.slice (some ⟨gm,om,none⟩) nm cm)∧w4.drew.cell? ⟨gm,om+i*4+2,none⟩=some (.int .i64 value)∧Hid (Fr No W0 w4.drew):=⟨d4,z2,d1,dv,HF15.out⟩
 have HK2:Hid (∀W,Fr No w4.drew W→W.cell? ⟨bw,4,none⟩=some (.pointer (some ⟨mb,0,none⟩))∧W.cell? ⟨w.heap.size,2,none⟩=some (.int .u64 a2)∧W.cell? ⟨bw,1,none⟩=some (.slice (some ⟨gm,om,none⟩) nm cm)∧W.cell? ⟨gm,om+i*4+2,none⟩=some (.int .i64 value)∧Hid (Fr No W0 W)):=fun W hW=>by
  have hf:Fr No W0 W:=HF15.out.trans hW
  have hm:=HM.out W (HF0.out.trans hf)
  exact ⟨hm.c4,(HZ.out W hf).2.2.1,hm.c1,hm.value,hf⟩
 clear z0 z1 z2 z3 d0 d1 d4 d5 dk dv
 go_region_held3 (fun W=>W.cell? ⟨bw,4,none⟩=some (.pointer (some ⟨mb,0,none⟩))∧W.cell? ⟨w.heap.size,2,none⟩=some (.int .u64 a2)∧W.cell? ⟨bw,1,none⟩=some (.slice (some ⟨gm,om,none⟩) nm cm)∧W.cell? ⟨gm,om+i*4+2,none⟩=some (.int .i64 value)∧Hid (Fr No W0 W)) (first|assumption|exact HK2.out _ (by assumption))
  (first
   |(go_at_call 11;(with_reducible refine (HT2.out _ HF14.out).mono ?_);rintro e w6 ⟨rfl,hf6⟩))
 have HF6:Hid (Fr No w w6):=Lib.hid (HF14.out.trans hf6)
 have HF06:Hid (Fr No W0 w6):=Lib.hid (HF15.out.trans hf6)
 obtain ⟨z0,z1,z2,z3⟩:=HZ.out w6 HF06.out
 obtain ⟨d0,d1,d4,d5,dk,dv⟩:=HM.out w6 HF6.out
 clear hf6
 go_wp2_with fail
 go_ret2
 exact ⟨rfl,HF6.out⟩
theorem call_flag(bw b mb nm gm om cm i:Nat)(key value a0 a1 a2 a3 a4:Int)(K V:ByteArray)(w:World)(h:CallW bw b mb nm key value gm om cm i w)(ha:ArgsAt w)
  (hlen:∀W,Fr No w W→Calls Tryz.prog 73 #[.pointer (some ⟨b,0,none⟩)] W fun e w'=>e= .returned (.int .i64 nm)∧W=w') (hnm:nm≤1000) (hx:IntKind.u64.wrap (a0-9437184)=i) (hi:i<nm)
  (ht:∀W,Fr No w W→Calls Tryz.prog 11 #[.pointer (some ⟨mb,0,none⟩), .int .u64 a1, .int .i64 key] W fun e w'=>e= .returned (.tuple #[.string K, .int .i64 0])∧Fr No W w')
  (hv:∀W,Fr No w W→Calls Tryz.prog 11 #[.pointer (some ⟨mb,0,none⟩), .int .u64 a2, .int .i64 value] W fun e w'=>e= .returned (.tuple #[.string V, .int .i64 0])∧Fr No W w') (hk:(a3==0)=false):
  Calls Tryz.prog 67 #[.pointer (some ⟨bw,0,none⟩), .int .i64 2,five a0 a1 a2 a3 a4] w fun e w'=>e= .returned (.tuple #[.int .u64 18446744073709551594, .int .i64 0])∧Fr No w w':=by
 have HN:Hid (∀W,Fr No w W→Calls Tryz.prog 30 #[.pointer (some ⟨bw,0,none⟩)] W fun e w'=>e= .returned (.bool false)∧W=w'):=fun W hW=>hnone_any bw W (hW.cell h.c0 (fun h=>h))
 have HA:Hid (∀W,Fr No w W→Calls Tryz.prog 66 #[.int .i64 2] W fun e w'=>e= .returned (.int .i64 (argA 2))∧W=w'):=fun W hW=>args_any 2 W (ha.fr hW) (by decide)
 have q0:decide (argA 2<0)=false:=by decide
 have q1:((2:Int)==7)=false:=by decide
 obtain ⟨A,hA⟩:∃A,argA 2=A:=⟨_,rfl⟩
 rw [hA] at HA q0
 have HL:=Lib.hid hlen
 have HT:=Lib.hid ht
 have f1:IntKind.u64.wrap (nm:Int)=nm:=u64_nat nm (by omega)
 have f2:IntKind.i64.wrap (i:Int)=i:=IntWalk.i64_in _ (by omega)
 have q2:decide ((i:Int)≥(nm:Int))=false:=by simp;omega
 have c1:(0:Int)≤(i:Int):=by omega
 have c2:(i:Int)<(nm:Int):=by omega
 have HM:Hid (∀W,Fr No w W→CallW bw b mb nm key value gm om cm i W):=fun W hW=>h.fr hW
 have HT2:=Lib.hid hv
 clear hv
 clear h ha hlen hnm hA hi ht
 unfold five
 go_enter Tryz.func67,Tryz.ntmps67
 go_upto_region 7 with (first
  |(go_at_call 30;(with_reducible refine (HN.out _ (fr_box _ _)).mono ?_);rintro e w1 ⟨rfl,rfl⟩)
  |(go_at_call 66;(with_reducible refine (HA.out _ (fr_box _ _)).mono ?_);rintro e w2 ⟨rfl,rfl⟩))
 obtain ⟨W0,hW0⟩:∃W0,W0=w.alloc (.cells #[.int .u64 a0, .int .u64 a1, .int .u64 a2, .int .u64 a3, .int .u64 a4] 156):=⟨_,rfl⟩
 have HF0:Hid (Fr No w W0):=by rw [hW0];exact Lib.hid (fr_box _ _)
 have HZ:Hid (∀W,Fr No W0 W→W.cell? ⟨w.heap.size,0,none⟩=some (.int .u64 a0)∧W.cell? ⟨w.heap.size,1,none⟩=some (.int .u64 a1)∧W.cell? ⟨w.heap.size,2,none⟩=some (.int .u64 a2)∧W.cell? ⟨w.heap.size,3,none⟩=some (.int .u64 a3)):=fun W hW=>by
  subst hW0
  refine ⟨hW.cell ?_ (fun h=>h),hW.cell ?_ (fun h=>h),hW.cell ?_ (fun h=>h),hW.cell ?_ (fun h=>h)⟩<;>go_simp
 have H0:W0.drew.cell? ⟨w.heap.size,0,none⟩=some (.int .u64 a0)∧W0.drew.cell? ⟨bw,5,none⟩=some (.pointer (some ⟨b,0,none⟩)):=⟨(HZ.out _ (Fr.refl _ _)).1,(HM.out W0 HF0.out).c5⟩
 rw [←hW0]
 clear hW0
 go_region_held3 (fun W=>W.cell? ⟨w.heap.size,0,none⟩=some (.int .u64 a0)∧W.cell? ⟨bw,5,none⟩=some (.pointer (some ⟨b,0,none⟩))) (first|assumption|go_keep)
  (first
   |(go_at_call 73;(with_reducible refine (HL.out _ (HF0.out.drew)).mono ?_);rintro e w3 ⟨rfl,rfl⟩))
 obtain ⟨z0,z1,z2,z3⟩:=HZ.out W0.drew ((Fr.refl _ _).drew)
 obtain ⟨d0,d1,d4,d5,dk,dv⟩:=HM.out W0.drew HF0.out.drew
 have HF1:Hid (Fr No w W0.drew):=Lib.hid HF0.out.drew
 clear HN HA HL
 go_upto_region 10 with fail
 have H1:W0.drew.drew.cell? ⟨bw,4,none⟩=some (.pointer (some ⟨mb,0,none⟩))∧W0.drew.drew.cell? ⟨w.heap.size,1,none⟩=some (.int .u64 a1)∧W0.drew.drew.cell? ⟨bw,1,none⟩=some (.slice (some ⟨gm,om,none⟩) nm cm)∧W0.drew.drew.cell? ⟨gm,om+i*4+1,none⟩=some (.int .i64 key)∧Hid (Fr No W0 W0.drew.drew):=⟨d4,z1,d1,dk,((Fr.refl _ _).drew).drew⟩
 have HK1:Hid (∀W,Fr No W0.drew.drew W→W.cell? ⟨bw,4,none⟩=some (.pointer (some ⟨mb,0,none⟩))∧W.cell? ⟨w.heap.size,1,none⟩=some (.int .u64 a1)∧W.cell? ⟨bw,1,none⟩=some (.slice (some ⟨gm,om,none⟩) nm cm)∧W.cell? ⟨gm,om+i*4+1,none⟩=some (.int .i64 key)∧Hid (Fr No W0 W)):=fun W hW=>by
  have hf:Fr No W0 W:=(((Fr.refl _ _).drew).drew).trans hW
  have hm:=HM.out W (HF0.out.trans hf)
  exact ⟨hm.c4,(HZ.out W hf).2.1,hm.c1,hm.key,hf⟩
 clear z0 z1 z2 z3 d0 d1 d4 d5 dk dv
 go_region_held3 (fun W=>W.cell? ⟨bw,4,none⟩=some (.pointer (some ⟨mb,0,none⟩))∧W.cell? ⟨w.heap.size,1,none⟩=some (.int .u64 a1)∧W.cell? ⟨bw,1,none⟩=some (.slice (some ⟨gm,om,none⟩) nm cm)∧W.cell? ⟨gm,om+i*4+1,none⟩=some (.int .i64 key)∧Hid (Fr No W0 W)) (first|assumption|exact HK1.out _ (by assumption))
  (first
   |(go_at_call 11;(with_reducible refine (HT.out _ (HF1.out.drew)).mono ?_);rintro e w4 ⟨rfl,hf4⟩))
 have HF4:Hid (Fr No w w4):=Lib.hid ((HF1.out.drew).trans hf4)
 have HF04:Hid (Fr No W0 w4):=Lib.hid ((((Fr.refl _ _).drew).drew).trans hf4)
 obtain ⟨z0,z1,z2,z3⟩:=HZ.out w4 HF04.out
 obtain ⟨d0,d1,d4,d5,dk,dv⟩:=HM.out w4 HF4.out
 clear hf4
 have HF14:Hid (Fr No w w4.drew):=Lib.hid HF4.out.drew
 have HF15:Hid (Fr No W0 w4.drew):=Lib.hid HF04.out.drew
 go_upto_region 18 with fail
 have H2:w4.drew.cell? ⟨bw,4,none⟩=some (.pointer (some ⟨mb,0,none⟩))∧w4.drew.cell? ⟨w.heap.size,2,none⟩=some (.int .u64 a2)∧w4.drew.cell? ⟨bw,1,none⟩=some (.slice (some ⟨gm,om,none⟩) nm cm)∧w4.drew.cell? ⟨gm,om+i*4+2,none⟩=some (.int .i64 value)∧Hid (Fr No W0 w4.drew):=⟨d4,z2,d1,dv,HF15.out⟩
 have HK2:Hid (∀W,Fr No w4.drew W→W.cell? ⟨bw,4,none⟩=some (.pointer (some ⟨mb,0,none⟩))∧W.cell? ⟨w.heap.size,2,none⟩=some (.int .u64 a2)∧W.cell? ⟨bw,1,none⟩=some (.slice (some ⟨gm,om,none⟩) nm cm)∧W.cell? ⟨gm,om+i*4+2,none⟩=some (.int .i64 value)∧Hid (Fr No W0 W)):=fun W hW=>by
  have hf:Fr No W0 W:=HF15.out.trans hW
  have hm:=HM.out W (HF0.out.trans hf)
  exact ⟨hm.c4,(HZ.out W hf).2.2.1,hm.c1,hm.value,hf⟩
 clear z0 z1 z2 z3 d0 d1 d4 d5 dk dv
 go_region_held3 (fun W=>W.cell? ⟨bw,4,none⟩=some (.pointer (some ⟨mb,0,none⟩))∧W.cell? ⟨w.heap.size,2,none⟩=some (.int .u64 a2)∧W.cell? ⟨bw,1,none⟩=some (.slice (some ⟨gm,om,none⟩) nm cm)∧W.cell? ⟨gm,om+i*4+2,none⟩=some (.int .i64 value)∧Hid (Fr No W0 W)) (first|assumption|exact HK2.out _ (by assumption))
  (first
   |(go_at_call 11;(with_reducible refine (HT2.out _ HF14.out).mono ?_);rintro e w6 ⟨rfl,hf6⟩))
 have HF6:Hid (Fr No w w6):=Lib.hid (HF14.out.trans hf6)
 have HF06:Hid (Fr No W0 w6):=Lib.hid (HF15.out.trans hf6)
 obtain ⟨z0,z1,z2,z3⟩:=HZ.out w6 HF06.out
 obtain ⟨d0,d1,d4,d5,dk,dv⟩:=HM.out w6 HF6.out
 clear hf6
 go_wp2_with fail
 go_ret2
 exact ⟨rfl,HF6.out⟩
theorem call_update(bw b mb nm gm om cm i:Nat)(key value a0 a1 a2 a3 a4 r ru:Int)(K V:ByteArray)(P:World→World→Prop)(w:World)(h:CallW bw b mb nm key value gm om cm i w)(ha:ArgsAt w)
  (hlen:∀W,Fr No w W→Calls Tryz.prog 73 #[.pointer (some ⟨b,0,none⟩)] W fun e w'=>e= .returned (.int .i64 nm)∧W=w') (hnm:nm≤1000) (hx:IntKind.u64.wrap (a0-9437184)=i) (hi:i<nm)
  (ht:∀W,Fr No w W→Calls Tryz.prog 11 #[.pointer (some ⟨mb,0,none⟩), .int .u64 a1, .int .i64 key] W fun e w'=>e= .returned (.tuple #[.string K, .int .i64 0])∧Fr No W w')
  (hv:∀W,Fr No w W→Calls Tryz.prog 11 #[.pointer (some ⟨mb,0,none⟩), .int .u64 a2, .int .i64 value] W fun e w'=>e= .returned (.tuple #[.string V, .int .i64 0])∧Fr No W w') (hk:(a3==0)=true)
  (hr:IntKind.u64.wrap r=ru) (hl:∀W,Fr No w W→Calls Tryz.prog 23 #[.pointer (some ⟨b,0,none⟩), .int .i64 i, .string K, .string V] W fun e w'=>e= .returned (.int .i64 r)∧P W w'):
  Calls Tryz.prog 67 #[.pointer (some ⟨bw,0,none⟩), .int .i64 2,five a0 a1 a2 a3 a4] w fun e w'=>e= .returned (.tuple #[.int .u64 ru, .int .i64 0])∧∃W,Fr No w W∧P W w':=by
 have HN:Hid (∀W,Fr No w W→Calls Tryz.prog 30 #[.pointer (some ⟨bw,0,none⟩)] W fun e w'=>e= .returned (.bool false)∧W=w'):=fun W hW=>hnone_any bw W (hW.cell h.c0 (fun h=>h))
 have HA:Hid (∀W,Fr No w W→Calls Tryz.prog 66 #[.int .i64 2] W fun e w'=>e= .returned (.int .i64 (argA 2))∧W=w'):=fun W hW=>args_any 2 W (ha.fr hW) (by decide)
 have q0:decide (argA 2<0)=false:=by decide
 have q1:((2:Int)==7)=false:=by decide
 obtain ⟨A,hA⟩:∃A,argA 2=A:=⟨_,rfl⟩
 rw [hA] at HA q0
 have HL:=Lib.hid hlen
 have HT:=Lib.hid ht
 have f1:IntKind.u64.wrap (nm:Int)=nm:=u64_nat nm (by omega)
 have f2:IntKind.i64.wrap (i:Int)=i:=IntWalk.i64_in _ (by omega)
 have q2:decide ((i:Int)≥(nm:Int))=false:=by simp;omega
 have c1:(0:Int)≤(i:Int):=by omega
 have c2:(i:Int)<(nm:Int):=by omega
 have HM:Hid (∀W,Fr No w W→CallW bw b mb nm key value gm om cm i W):=fun W hW=>h.fr hW
 have HT2:=Lib.hid hv
 have HLK:=Lib.hid hl
 clear hv hl
 clear h ha hlen hnm hA hi ht
 unfold five
 go_enter Tryz.func67,Tryz.ntmps67
 go_upto_region 7 with (first
  |(go_at_call 30;(with_reducible refine (HN.out _ (fr_box _ _)).mono ?_);rintro e w1 ⟨rfl,rfl⟩)
  |(go_at_call 66;(with_reducible refine (HA.out _ (fr_box _ _)).mono ?_);rintro e w2 ⟨rfl,rfl⟩))
 obtain ⟨W0,hW0⟩:∃W0,W0=w.alloc (.cells #[.int .u64 a0, .int .u64 a1, .int .u64 a2, .int .u64 a3, .int .u64 a4] 156):=⟨_,rfl⟩
 have HF0:Hid (Fr No w W0):=by rw [hW0];exact Lib.hid (fr_box _ _)
 have HZ:Hid (∀W,Fr No W0 W→W.cell? ⟨w.heap.size,0,none⟩=some (.int .u64 a0)∧W.cell? ⟨w.heap.size,1,none⟩=some (.int .u64 a1)∧W.cell? ⟨w.heap.size,2,none⟩=some (.int .u64 a2)∧W.cell? ⟨w.heap.size,3,none⟩=some (.int .u64 a3)):=fun W hW=>by
  subst hW0
  refine ⟨hW.cell ?_ (fun h=>h),hW.cell ?_ (fun h=>h),hW.cell ?_ (fun h=>h),hW.cell ?_ (fun h=>h)⟩<;>go_simp
 have H0:W0.drew.cell? ⟨w.heap.size,0,none⟩=some (.int .u64 a0)∧W0.drew.cell? ⟨bw,5,none⟩=some (.pointer (some ⟨b,0,none⟩)):=⟨(HZ.out _ (Fr.refl _ _)).1,(HM.out W0 HF0.out).c5⟩
 rw [←hW0]
 clear hW0
 go_region_held3 (fun W=>W.cell? ⟨w.heap.size,0,none⟩=some (.int .u64 a0)∧W.cell? ⟨bw,5,none⟩=some (.pointer (some ⟨b,0,none⟩))) (first|assumption|go_keep)
  (first
   |(go_at_call 73;(with_reducible refine (HL.out _ (HF0.out.drew)).mono ?_);rintro e w3 ⟨rfl,rfl⟩))
 obtain ⟨z0,z1,z2,z3⟩:=HZ.out W0.drew ((Fr.refl _ _).drew)
 obtain ⟨d0,d1,d4,d5,dk,dv⟩:=HM.out W0.drew HF0.out.drew
 have HF1:Hid (Fr No w W0.drew):=Lib.hid HF0.out.drew
 clear HN HA HL
 go_upto_region 10 with fail
 have H1:W0.drew.drew.cell? ⟨bw,4,none⟩=some (.pointer (some ⟨mb,0,none⟩))∧W0.drew.drew.cell? ⟨w.heap.size,1,none⟩=some (.int .u64 a1)∧W0.drew.drew.cell? ⟨bw,1,none⟩=some (.slice (some ⟨gm,om,none⟩) nm cm)∧W0.drew.drew.cell? ⟨gm,om+i*4+1,none⟩=some (.int .i64 key)∧Hid (Fr No W0 W0.drew.drew):=⟨d4,z1,d1,dk,((Fr.refl _ _).drew).drew⟩
 have HK1:Hid (∀W,Fr No W0.drew.drew W→W.cell? ⟨bw,4,none⟩=some (.pointer (some ⟨mb,0,none⟩))∧W.cell? ⟨w.heap.size,1,none⟩=some (.int .u64 a1)∧W.cell? ⟨bw,1,none⟩=some (.slice (some ⟨gm,om,none⟩) nm cm)∧W.cell? ⟨gm,om+i*4+1,none⟩=some (.int .i64 key)∧Hid (Fr No W0 W)):=fun W hW=>by
  have hf:Fr No W0 W:=(((Fr.refl _ _).drew).drew).trans hW
  have hm:=HM.out W (HF0.out.trans hf)
  exact ⟨hm.c4,(HZ.out W hf).2.1,hm.c1,hm.key,hf⟩
 clear z0 z1 z2 z3 d0 d1 d4 d5 dk dv
 go_region_held3 (fun W=>W.cell? ⟨bw,4,none⟩=some (.pointer (some ⟨mb,0,none⟩))∧W.cell? ⟨w.heap.size,1,none⟩=some (.int .u64 a1)∧W.cell? ⟨bw,1,none⟩=some (.slice (some ⟨gm,om,none⟩) nm cm)∧W.cell? ⟨gm,om+i*4+1,none⟩=some (.int .i64 key)∧Hid (Fr No W0 W)) (first|assumption|exact HK1.out _ (by assumption))
  (first
   |(go_at_call 11;(with_reducible refine (HT.out _ (HF1.out.drew)).mono ?_);rintro e w4 ⟨rfl,hf4⟩))
 have HF4:Hid (Fr No w w4):=Lib.hid ((HF1.out.drew).trans hf4)
 have HF04:Hid (Fr No W0 w4):=Lib.hid ((((Fr.refl _ _).drew).drew).trans hf4)
 obtain ⟨z0,z1,z2,z3⟩:=HZ.out w4 HF04.out
 obtain ⟨d0,d1,d4,d5,dk,dv⟩:=HM.out w4 HF4.out
 clear hf4
 have HF14:Hid (Fr No w w4.drew):=Lib.hid HF4.out.drew
 have HF15:Hid (Fr No W0 w4.drew):=Lib.hid HF04.out.drew
 go_upto_region 18 with fail
 have H2:w4.drew.cell? ⟨bw,4,none⟩=some (.pointer (some ⟨mb,0,none⟩))∧w4.drew.cell? ⟨w.heap.size,2,none⟩=some (.int .u64 a2)∧w4.drew.cell? ⟨bw,1,none⟩=some (.slice (some ⟨gm,om,none⟩) nm cm)∧w4.drew.cell? ⟨gm,om+i*4+2,none⟩=some (.int .i64 value)∧Hid (Fr No W0 w4.drew):=⟨d4,z2,d1,dv,HF15.out⟩
 have HK2:Hid (∀W,Fr No w4.drew W→W.cell? ⟨bw,4,none⟩=some (.pointer (some ⟨mb,0,none⟩))∧W.cell? ⟨w.heap.size,2,none⟩=some (.int .u64 a2)∧W.cell? ⟨bw,1,none⟩=some (.slice (some ⟨gm,om,none⟩) nm cm)∧W.cell? ⟨gm,om+i*4+2,none⟩=some (.int .i64 value)∧Hid (Fr No W0 W)):=fun W hW=>by
  have hf:Fr No W0 W:=HF15.out.trans hW
  have hm:=HM.out W (HF0.out.trans hf)
  exact ⟨hm.c4,(HZ.out W hf).2.2.1,hm.c1,hm.value,hf⟩
 clear z0 z1 z2 z3 d0 d1 d4 d5 dk dv
 go_region_held3 (fun W=>W.cell? ⟨bw,4,none⟩=some (.pointer (some ⟨mb,0,none⟩))∧W.cell? ⟨w.heap.size,2,none⟩=some (.int .u64 a2)∧W.cell? ⟨bw,1,none⟩=some (.slice (some ⟨gm,om,none⟩) nm cm)∧W.cell? ⟨gm,om+i*4+2,none⟩=some (.int .i64 value)∧Hid (Fr No W0 W)) (first|assumption|exact HK2.out _ (by assumption))
  (first
   |(go_at_call 11;(with_reducible refine (HT2.out _ HF14.out).mono ?_);rintro e w6 ⟨rfl,hf6⟩))
 have HF6:Hid (Fr No w w6):=Lib.hid (HF14.out.trans hf6)
 have HF06:Hid (Fr No W0 w6):=Lib.hid (HF15.out.trans hf6)
 obtain ⟨z0,z1,z2,z3⟩:=HZ.out w6 HF06.out
 obtain ⟨d0,d1,d4,d5,dk,dv⟩:=HM.out w6 HF6.out
 clear hf6
 go_wp2_with (go_at_call 23;(with_reducible refine (HLK.out _ HF6.out).mono ?_);rintro e w7 ⟨rfl,hf7⟩)
 go_ret2
 exact ⟨rfl,w6,HF6.out,hf7⟩
theorem wcall_not{w0 wr:World}{bw b mb p:Nat}{ds:List MapD}{RL:List Reg}{D:List Int}{S:List Tab}{m:List Reg}{A H T:Nat→Prop}{mv ov dv:Value}(h:WAt w0 bw b mb ds p RL D S m A H T mv ov dv wr)(ha:ArgsAt w0)(id a0 a1 a2 a3 a4:Int)(hw:(Lit.int .i64 id).wf=true)(hno:argHas id=false):
  Calls Tryz.prog 67 #[.pointer (some ⟨bw,0,none⟩), .int .i64 id,five a0 a1 a2 a3 a4] wr fun e w'=>e= .returned (.tuple #[.int .u64 0, .int .i64 45])∧Hid (WAt w0 bw b mb ds p RL D S m A H T mv ov dv w'∧Fr No wr w'):=
 (call_not bw id a0 a1 a2 a3 a4 wr h.c0 (ha.fr h.k.fr) hw hno).mono fun e w' ⟨he,hf⟩=>⟨he,h.to hf,hf⟩
end Go.Proofs.YtjcgmhlbkheadaaGreatDoor
