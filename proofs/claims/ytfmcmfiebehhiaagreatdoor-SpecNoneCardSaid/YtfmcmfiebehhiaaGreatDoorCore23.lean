/- package cpu: Taken. (printed by mktaken.py) package cpu: Exec's own function. package cpu: Exec, what its boxes hold. -/
import Derived.Test.YtfmcmfiebehhiaaGreatDoorCore22
import Derived.Test.YtfmcmfiebehhiaaGreatDoorCore20
set_option linter.all false
set_option linter.unusedVariables false
set_option linter.unusedSimpArgs false
set_option maxRecDepth 100000
set_option maxHeartbeats 1000000
namespace Go.Proofs.YtfmcmfiebehhiaaGreatDoor
open Go.Proofs.Tryz
open Go.RowKit
theorem SAt.new(w:World){s:ST}(h:s.ok)(t):SAt (w.alloc (.cells s.cells.toArray t)) w.heap.size s:=
 ⟨CellsAt.new w _ _,fun j=>World.frozen?_alloc_new _ _ _ _,h⟩
theorem ST.info{s:ST}(h:s.ok):(prog.info? 68).map (·.size)=some s.cells.length:=by rw [ST.cells_len h];kernel_rfl
theorem SAt.load{w b}{s:ST}(hS:SAt w b s){ops rest}{op:Oper}{a:Act}{Q}(hgd:op.guard=none)(x)(ho:op.op= .load 68 x)(hx:a.eval x= .pointer (some ⟨b,0,none⟩))(h:wpList prog ops Q rest (a.put op.dst (.agg s.cells.toArray)) w):wpList prog ops Q (op::rest) a w:=
 wpList_load_mid hgd 68 x ho b 0 hx s.cells _ hS.cells underlying68 rfl (ST.info hS.ok) h
theorem taken_2(s:ST)(w:World)(h:s.ok):
  Calls prog 71 #[.int .i64 2,s.agg] w fun e w'=>e= .returned (.bool s.c)∧Fr No w w':=by
 obtain ⟨W1,hW1⟩:∃W1,W1=w.alloc (Obj.cells s.cells.toArray 68):=⟨_,rfl⟩
 have HS:Hid (SAt W1 w.heap.size s∧Fr No w W1):=by rw [hW1];exact ⟨SAt.new w h _,fr_alloc _ _⟩
 unfold ST.agg
 go_enter func71,ntmps71
 go_upto_region 1 with fail
 rw [←hW1]
 clear hW1
 obtain ⟨c0,c1,c2,c3,c4⟩:=HS.out.1.at
 go_wp2_with fail
 go_ret
 exact ⟨rfl,HS.out.2⟩
theorem taken_4(s:ST)(w:World)(h:s.ok):
  Calls prog 71 #[.int .i64 4,s.agg] w fun e w'=>e= .returned (.bool s.z)∧Fr No w w':=by
 obtain ⟨W1,hW1⟩:∃W1,W1=w.alloc (Obj.cells s.cells.toArray 68):=⟨_,rfl⟩
 have HS:Hid (SAt W1 w.heap.size s∧Fr No w W1):=by rw [hW1];exact ⟨SAt.new w h _,fr_alloc _ _⟩
 unfold ST.agg
 go_enter func71,ntmps71
 go_upto_region 1 with fail
 rw [←hW1]
 clear hW1
 obtain ⟨c0,c1,c2,c3,c4⟩:=HS.out.1.at
 go_wp2_with fail
 go_ret
 exact ⟨rfl,HS.out.2⟩
theorem taken_6(s:ST)(w:World)(h:s.ok):
  Calls prog 71 #[.int .i64 6,s.agg] w fun e w'=>e= .returned (.bool (s.c||s.z))∧Fr No w w':=by
 obtain ⟨W1,hW1⟩:∃W1,W1=w.alloc (Obj.cells s.cells.toArray 68):=⟨_,rfl⟩
 have HS:Hid (SAt W1 w.heap.size s∧Fr No w W1):=by rw [hW1];exact ⟨SAt.new w h _,fr_alloc _ _⟩
 unfold ST.agg
 obtain ⟨q,hq⟩:∃q,s.c=q:=⟨_,rfl⟩
 obtain ⟨V,hV⟩:∃V,(s.c||s.z)=V:=⟨_,rfl⟩
 rw [hV]
 have HV:=Lib.hid hV
 clear hV
 go_enter func71,ntmps71
 go_upto_region 1 with fail
 rw [←hW1]
 clear hW1
 obtain ⟨c0,c1,c2,c3,c4⟩:=HS.out.1.at
 rw [hq] at c2
 cases q with
 |true=>
  have E:Hid (V=true):=by rw [←HV.out,hq];exact Lib.hid rfl
  clear hq HV
  go_wp2_with fail
  go_ret
  exact ⟨by rw [E.out];rfl,HS.out.2⟩
 |false=>
  have E:Hid (V=s.z):=by rw [←HV.out,hq];exact Lib.hid rfl
  clear hq HV
  go_wp2_with fail
  go_ret
  exact ⟨by rw [E.out];rfl,HS.out.2⟩
theorem taken_12(s:ST)(w:World)(h:s.ok):
  Calls prog 71 #[.int .i64 12,s.agg] w fun e w'=>e= .returned (.bool (s.s !=s.o))∧Fr No w w':=by
 obtain ⟨W1,hW1⟩:∃W1,W1=w.alloc (Obj.cells s.cells.toArray 68):=⟨_,rfl⟩
 have HS:Hid (SAt W1 w.heap.size s∧Fr No w W1):=by rw [hW1];exact ⟨SAt.new w h _,fr_alloc _ _⟩
 unfold ST.agg
 go_enter func71,ntmps71
 go_upto_region 1 with fail
 rw [←hW1]
 clear hW1
 obtain ⟨c0,c1,c2,c3,c4⟩:=HS.out.1.at
 go_wp2_with fail
 go_ret
 exact ⟨rfl,HS.out.2⟩
theorem taken_14(s:ST)(w:World)(h:s.ok):
  Calls prog 71 #[.int .i64 14,s.agg] w fun e w'=>e= .returned (.bool (s.z||(s.s !=s.o)))∧Fr No w w':=by
 obtain ⟨W1,hW1⟩:∃W1,W1=w.alloc (Obj.cells s.cells.toArray 68):=⟨_,rfl⟩
 have HS:Hid (SAt W1 w.heap.size s∧Fr No w W1):=by rw [hW1];exact ⟨SAt.new w h _,fr_alloc _ _⟩
 unfold ST.agg
 obtain ⟨q,hq⟩:∃q,s.z=q:=⟨_,rfl⟩
 obtain ⟨V,hV⟩:∃V,(s.z||(s.s !=s.o))=V:=⟨_,rfl⟩
 rw [hV]
 have HV:=Lib.hid hV
 clear hV
 go_enter func71,ntmps71
 go_upto_region 1 with fail
 rw [←hW1]
 clear hW1
 obtain ⟨c0,c1,c2,c3,c4⟩:=HS.out.1.at
 rw [hq] at c0
 cases q with
 |true=>
  have E:Hid (V=true):=by rw [←HV.out,hq];exact Lib.hid rfl
  clear hq HV
  go_wp2_with fail
  go_ret
  exact ⟨by rw [E.out];rfl,HS.out.2⟩
 |false=>
  have E:Hid (V=(s.s !=s.o)):=by rw [←HV.out,hq];exact Lib.hid rfl
  clear hq HV
  go_wp2_with fail
  go_ret
  exact ⟨by rw [E.out];rfl,HS.out.2⟩
theorem taken_3(s:ST)(w:World)(h:s.ok):
  Calls prog 71 #[.int .i64 3,s.agg] w fun e w'=>e= .returned (.bool (!s.c))∧Fr No w w':=by
 obtain ⟨W1,hW1⟩:∃W1,W1=w.alloc (Obj.cells s.cells.toArray 68):=⟨_,rfl⟩
 have HS:Hid (SAt W1 w.heap.size s∧Fr No w W1):=by rw [hW1];exact ⟨SAt.new w h _,fr_alloc _ _⟩
 unfold ST.agg
 have HT:=Lib.hid (fun W=>taken_2 s W h)
 have x1:bits .xor .i64 3 1=2:=by decide+kernel
 generalize s.c=V at*
 unfold ST.agg at HT
 go_enter func71,ntmps71
 go_upto_region 1 with fail
 rw [←hW1]
 clear hW1
 go_wp2_with (first
  |(refine HS.out.1.load rfl (.tmp 3) rfl rfl ?_)
  |(go_at_call 71;(with_reducible refine (HT.out _).mono ?_);rintro e w1 ⟨rfl,hf1⟩))
 go_ret
 exact ⟨rfl,HS.out.2.trans hf1⟩
theorem taken_5(s:ST)(w:World)(h:s.ok):
  Calls prog 71 #[.int .i64 5,s.agg] w fun e w'=>e= .returned (.bool (!s.z))∧Fr No w w':=by
 obtain ⟨W1,hW1⟩:∃W1,W1=w.alloc (Obj.cells s.cells.toArray 68):=⟨_,rfl⟩
 have HS:Hid (SAt W1 w.heap.size s∧Fr No w W1):=by rw [hW1];exact ⟨SAt.new w h _,fr_alloc _ _⟩
 unfold ST.agg
 have HT:=Lib.hid (fun W=>taken_4 s W h)
 have x1:bits .xor .i64 5 1=4:=by decide+kernel
 generalize s.z=V at*
 unfold ST.agg at HT
 go_enter func71,ntmps71
 go_upto_region 1 with fail
 rw [←hW1]
 clear hW1
 go_wp2_with (first
  |(refine HS.out.1.load rfl (.tmp 3) rfl rfl ?_)
  |(go_at_call 71;(with_reducible refine (HT.out _).mono ?_);rintro e w1 ⟨rfl,hf1⟩))
 go_ret
 exact ⟨rfl,HS.out.2.trans hf1⟩
theorem taken_7(s:ST)(w:World)(h:s.ok):
  Calls prog 71 #[.int .i64 7,s.agg] w fun e w'=>e= .returned (.bool (!(s.c||s.z)))∧Fr No w w':=by
 obtain ⟨W1,hW1⟩:∃W1,W1=w.alloc (Obj.cells s.cells.toArray 68):=⟨_,rfl⟩
 have HS:Hid (SAt W1 w.heap.size s∧Fr No w W1):=by rw [hW1];exact ⟨SAt.new w h _,fr_alloc _ _⟩
 unfold ST.agg
 have HT:=Lib.hid (fun W=>taken_6 s W h)
 have x1:bits .xor .i64 7 1=6:=by decide+kernel
 generalize (s.c||s.z)=V at*
 unfold ST.agg at HT
 go_enter func71,ntmps71
 go_upto_region 1 with fail
 rw [←hW1]
 clear hW1
 go_wp2_with (first
  |(refine HS.out.1.load rfl (.tmp 3) rfl rfl ?_)
  |(go_at_call 71;(with_reducible refine (HT.out _).mono ?_);rintro e w1 ⟨rfl,hf1⟩))
 go_ret
 exact ⟨rfl,HS.out.2.trans hf1⟩
theorem taken_13(s:ST)(w:World)(h:s.ok):
  Calls prog 71 #[.int .i64 13,s.agg] w fun e w'=>e= .returned (.bool (!(s.s !=s.o)))∧Fr No w w':=by
 obtain ⟨W1,hW1⟩:∃W1,W1=w.alloc (Obj.cells s.cells.toArray 68):=⟨_,rfl⟩
 have HS:Hid (SAt W1 w.heap.size s∧Fr No w W1):=by rw [hW1];exact ⟨SAt.new w h _,fr_alloc _ _⟩
 unfold ST.agg
 have HT:=Lib.hid (fun W=>taken_12 s W h)
 have x1:bits .xor .i64 13 1=12:=by decide+kernel
 generalize (s.s !=s.o)=V at*
 unfold ST.agg at HT
 go_enter func71,ntmps71
 go_upto_region 1 with fail
 rw [←hW1]
 clear hW1
 go_wp2_with (first
  |(refine HS.out.1.load rfl (.tmp 3) rfl rfl ?_)
  |(go_at_call 71;(with_reducible refine (HT.out _).mono ?_);rintro e w1 ⟨rfl,hf1⟩))
 go_ret
 exact ⟨rfl,HS.out.2.trans hf1⟩
theorem taken_15(s:ST)(w:World)(h:s.ok):
  Calls prog 71 #[.int .i64 15,s.agg] w fun e w'=>e= .returned (.bool (!(s.z||(s.s !=s.o))))∧Fr No w w':=by
 obtain ⟨W1,hW1⟩:∃W1,W1=w.alloc (Obj.cells s.cells.toArray 68):=⟨_,rfl⟩
 have HS:Hid (SAt W1 w.heap.size s∧Fr No w W1):=by rw [hW1];exact ⟨SAt.new w h _,fr_alloc _ _⟩
 unfold ST.agg
 have HT:=Lib.hid (fun W=>taken_14 s W h)
 have x1:bits .xor .i64 15 1=14:=by decide+kernel
 generalize (s.z||(s.s !=s.o))=V at*
 unfold ST.agg at HT
 go_enter func71,ntmps71
 go_upto_region 1 with fail
 rw [←hW1]
 clear hW1
 go_wp2_with (first
  |(refine HS.out.1.load rfl (.tmp 3) rfl rfl ?_)
  |(go_at_call 71;(with_reducible refine (HT.out _).mono ?_);rintro e w1 ⟨rfl,hf1⟩))
 go_ret
 exact ⟨rfl,HS.out.2.trans hf1⟩
theorem taken_not(cond)(s:ST)(w)(h2:cond≠2)(h3:cond≠3)(h4:cond≠4)(h5:cond≠5)(h6:cond≠6)(h7:cond≠7)(h12:cond≠12)(h13:cond≠13)(h14:cond≠14)(h15:cond≠15):
  Calls prog 71 #[.int .i64 cond,s.agg] w fun e w'=>e= .returned (.bool false)∧Fr No w w':=by
 have q2:(cond==2)=false:=by rw [beq_eq_false_iff_ne];exact h2
 have q3:(cond==3)=false:=by rw [beq_eq_false_iff_ne];exact h3
 have q4:(cond==4)=false:=by rw [beq_eq_false_iff_ne];exact h4
 have q5:(cond==5)=false:=by rw [beq_eq_false_iff_ne];exact h5
 have q6:(cond==6)=false:=by rw [beq_eq_false_iff_ne];exact h6
 have q7:(cond==7)=false:=by rw [beq_eq_false_iff_ne];exact h7
 have q12:(cond==12)=false:=by rw [beq_eq_false_iff_ne];exact h12
 have q13:(cond==13)=false:=by rw [beq_eq_false_iff_ne];exact h13
 have q14:(cond==14)=false:=by rw [beq_eq_false_iff_ne];exact h14
 have q15:(cond==15)=false:=by rw [beq_eq_false_iff_ne];exact h15
 unfold ST.agg
 clear h2 h3 h4 h5 h6 h7 h12 h13 h14 h15
 go_enter func71,ntmps71
 go_wp2_with fail
 go_ret
 exact ⟨rfl,fr_alloc _ _⟩
theorem taken_any(cond)(s:ST)(w)(h:s.ok):
  Calls prog 71 #[.int .i64 cond,s.agg] w fun e w'=>e= .returned (.bool (takenM cond s))∧Fr No w w':=by
 by_cases h2:cond=2
 ·subst h2;exact taken_2 s w h
 by_cases h3:cond=3
 ·subst h3;exact taken_3 s w h
 by_cases h4:cond=4
 ·subst h4;exact taken_4 s w h
 by_cases h5:cond=5
 ·subst h5;exact taken_5 s w h
 by_cases h6:cond=6
 ·subst h6;exact taken_6 s w h
 by_cases h7:cond=7
 ·subst h7;exact taken_7 s w h
 by_cases h12:cond=12
 ·subst h12;exact taken_12 s w h
 by_cases h13:cond=13
 ·subst h13;exact taken_13 s w h
 by_cases h14:cond=14
 ·subst h14;exact taken_14 s w h
 by_cases h15:cond=15
 ·subst h15;exact taken_15 s w h
 have e:takenM cond s=false:=by simp [takenM,h2,h3,h4,h5,h6,h7,h12,h13,h14,h15]
 rw [e]
 exact taken_not cond s w h2 h3 h4 h5 h6 h7 h12 h13 h14 h15
def XAt(w:World)(b:Nat)(x:XI):Prop:=CellsAt w b 0 x.cells
theorem mov_lt(wide v):doM 0xb0 wide 0 v<18446744073709551616:=doM_u64 _ _ _ _
theorem mov_any(bx g v d:Nat)(x:XI)(s:ST)(w:World)(hx:XAt w bx x)(hs:SAt w g s)(hd:x.dst=(d:Int))(hd16:d<16)(hv:v<18446744073709551616)(hne:bx≠g):
  Calls prog 116 #[.int .u64 v, .pointer (some ⟨bx,0,none⟩), .pointer (some ⟨g,0,none⟩)] w fun e w'=>e= .returned (.tuple #[])∧Hid (SAt w' g (s.set d (doM 0xb0 x.wide 0 v)))∧Hid (Fr (fun k=>k=g) w w'):=by
 have HD:Hid (∀W,Calls prog 117 #[.int .u8 176, .bool x.wide, .int .u64 0, .int .u64 v] W fun e w'=>e= .returned (.int .u64 (doM 0xb0 x.wide 0 v))∧W=w'):=fun W=>Do_any 0xb0 x.wide 0 v (by decide) (by decide) hv W
 have HE:Hid (∀W,SAt W g s→SAt (W.setCell ⟨g,d,none⟩ (.int .u64 (doM 0xb0 x.wide 0 v))) g (s.set d (doM 0xb0 x.wide 0 v))):=fun W h=>h.setReg hd16 (mov_lt _ _)
 have HS:=Lib.hid hs
 obtain ⟨c0,c1,c2,c3,c4,c5,c6,c7,c8,c9,c10⟩:=XI.at hx
 rw [hd] at c6
 have r1:=hs.reg hd16
 have o1:=hs.open_
 have d1:(0:Int)≤(d:Int):=by omega
 have d2:(d:Int)<16:=by omega
 clear hx hs hd hv
 generalize doM 0xb0 x.wide 0 v=R at*
 go_enter func116,ntmps116
 go_wp2_with fail
 go_region_with (go_at_call 117;(with_reducible refine (HD.out _).mono ?_);rintro e w1 ⟨rfl,rfl⟩)
 all_goals go_wp2_with fail
 all_goals first|go_end0|refine bodyPost_ret (results_none rfl _ _ _) rfl ?_
 all_goals exact ⟨rfl,(HE.out _ HS.out).fr (T:=No) ((Fr.refl _ _).drew) id,((Fr.refl (fun k=>k=g) w).setCell (p:=⟨g,d,none⟩) (.inr rfl) _).drew⟩
theorem ST.zero_ok:ST.zero.ok:=⟨rfl,fun v hv=>by unfold ST.zero at hv;rw [List.eq_of_mem_replicate hv];decide,by decide⟩
theorem results_st2{fn:Func}{a t}(h:fn.results= #[.cell a 68, .tmp t])(tmps:Array Value)(w b)(s:ST)(hS:SAt w b s)(ha:tmps.getD a undef= .pointer (some ⟨b,0,none⟩)):
  (results fn tmps).run prog w= .ok (.tuple #[s.agg,tmps.getD t undef]) w:=by
 have hl:=run_loadVar_mid w b 0 68 s.cells _ hS.cells underlying68 rfl (ST.info hS.ok)
 have ha':tmps[a]?.getD undef= .pointer (some ⟨b,0,none⟩):=by rw [←Array.getD_eq_getD_getElem?];exact ha
 simp [results,h,ha',hl,asAddr,ST.agg]
structure ESt(w0:World)(b:Nat)(x:XI)(s:ST)(w:World):Prop where
 fr:Fr No w0 w
 lo:w0.heap.size≤b
 x:XAt w b x
 st:SAt w (b+1) s
 res:SAt w (b+1+1) ST.zero
theorem ESt.start{w:World}{x:XI}{s:ST}(hs:s.ok)(t1 t2 t3):ESt w w.heap.size x s (((w.alloc (.cells x.cells.toArray t1)).alloc (.cells s.cells.toArray t2)).alloc (.cells ST.zero.cells.toArray t3)):=by
 obtain ⟨W1,hW1⟩:∃W1,W1=w.alloc (.cells x.cells.toArray t1):=⟨_,rfl⟩
 obtain ⟨W2,hW2⟩:∃W2,W2=W1.alloc (.cells s.cells.toArray t2):=⟨_,rfl⟩
 obtain ⟨W3,hW3⟩:∃W3,W3=W2.alloc (.cells ST.zero.cells.toArray t3):=⟨_,rfl⟩
 have z1:W1.heap.size=w.heap.size+1:=by rw [hW1,size_alloc]
 have z2:W2.heap.size=w.heap.size+1+1:=by rw [hW2,size_alloc,z1]
 have c1:CellsAt W1 w.heap.size 0 x.cells:=by rw [hW1];exact CellsAt.new w _ _
 have c2:SAt W2 (w.heap.size+1) s:=by rw [hW2,←z1];exact SAt.new W1 hs _
 have c3:SAt W3 (w.heap.size+1+1) ST.zero:=by rw [hW3,←z2];exact SAt.new W2 ST.zero_ok _
 have f1:Fr No w W1:=by rw [hW1];exact fr_alloc _ _
 have f2:Fr No W1 W2:=by rw [hW2];exact fr_alloc _ _
 have f3:Fr No W2 W3:=by rw [hW3];exact fr_alloc _ _
 rw [←hW1,←hW2,←hW3]
 exact ⟨f1.trans (f2.trans f3),Nat.le_refl _,(f2.trans f3).cells c1 id,c2.fr f3 id,c3⟩
theorem ESt.turn{w0 w w':World}{b x s s'}(h:ESt w0 b x s w)(hs:SAt w' (b+1) s')(hf:Fr (fun k=>k=b+1) w w'):ESt w0 b x s' w' where
 fr:=(h.fr.any.trans (hf.mono fun k _ hk=>by show w0.heap.size≤k;have:=h.lo;omega):Fr (From w0) w0 w').ours
 lo:=h.lo
 x:=hf.cells h.x (by omega)
 st:=hs
 res:=h.res.fr hf (by omega)
theorem ESt.no{w0 w w' b x s}(h:ESt w0 b x s w)(hf:Fr No w w'):ESt w0 b x s w':=h.turn (h.st.fr hf id) hf.any
theorem ESt.mov{w0 w:World}{b:Nat}{x:XI}{s:ST}(h:ESt w0 b x s w){d:Nat}(hd:x.dst=(d:Int))(hd16:d<16){v:Nat}(hv:v<18446744073709551616):
  Calls prog 116 #[.int .u64 v, .pointer (some ⟨b,0,none⟩), .pointer (some ⟨b+1,0,none⟩)] w fun e w'=>e= .returned (.tuple #[])∧Hid (ESt w0 b x (s.set d (doM 0xb0 x.wide 0 v)) w'):=
 (mov_any b (b+1) v d x s w h.x h.st hd hd16 hv (by omega)).mono fun e w' ⟨he,h1,h2⟩=>⟨he,h.turn h1.out h2.out⟩
theorem ESt.arith{w0 w b x s}(h:ESt w0 b x s w)(hm:MachAt w0)(wide:Bool)(op:Int)(u v:Nat)(hop:(Lit.int .i64 op).wf=true)(hu:u<18446744073709551616)(hv:v<18446744073709551616):
  Calls prog 118 #[.pointer (some ⟨b+1,0,none⟩), .bool wide, .int .i64 op, .int .u64 u, .int .u64 v] w fun e w'=>e= .returned (.int .u64 (arithM s wide op u v).2)∧Hid (ESt w0 b x (arithM s wide op u v).1 w'):=
 (arith_any (b+1) wide op u v s w h.st (hm.fr h.fr) hop hu hv).mono fun e w' ⟨he,h1,h2⟩=>⟨he,h.turn h1.out h2.out⟩
theorem ESt.setReg{w0 w:World}{b x}{s:ST}(h:ESt w0 b x s w){i}(hi:i<16){v}(hv:v<18446744073709551616):ESt w0 b x (s.set i v) (w.setCell ⟨b+1,i,none⟩ (.int .u64 v)):=
 h.turn (h.st.setReg hi hv) ((Fr.refl (fun k=>k=b+1) w).setCell (p:=⟨b+1,i,none⟩) (.inr rfl) _)
theorem cells_one{s:ST}(v:Value)(h:v∈s.cells):v.oneCell'=true:=by
 unfold ST.cells at h
 rcases List.mem_append.1 h with h|h
 ·obtain ⟨n,_,rfl⟩:=List.mem_map.1 h;rfl
 ·simp only [List.mem_cons,List.not_mem_nil,or_false] at h
  rcases h with rfl|rfl|rfl|rfl|rfl<;>rfl
theorem SAt.there{w:World}{b}{s:ST}(h:SAt w b s):w.there b 0 21:=fun j hj=>by
 rw [Nat.zero_add]
 refine ⟨?_,h.open_ j⟩
 have hl:=ST.cells_len h.ok
 have:=h.cells j _ (List.getElem?_eq_getElem (show j<s.cells.length by rw [hl];exact hj))
 rw [Nat.zero_add] at this
 rw [this]
 rfl
theorem SAt.stored{w:World}{b}{s t:ST}(h:SAt w b s)(ht:t.ok):SAt (w.setCells b 0 t.cells) b t:=
 ⟨World.rangeAt_setCells_same w b 0 t.cells (by rw [ST.cells_len ht];exact h.there),fun j=>by rw [World.frozen?_setCells];exact h.open_ j,ht⟩
theorem SAt.store{w b}{s t:ST}(h:SAt w b s)(ht:t.ok){ops rest}{op:Oper}{a:Act}{Q}(hgd:op.guard=none)(px py)(ho:op.op= .store 68 px py)(hx:a.eval px= .pointer (some ⟨b,0,none⟩))(hy:a.eval py= .agg t.cells.toArray)(k:∀W',SAt W' b t→Fr (fun k=>k=b) w W'→wpList prog ops Q rest (a.put op.dst undef) W'):wpList prog ops Q (op::rest) a w:=
 wpList_store_mid hgd 68 px py ho b 0 t.cells.toArray hx hy (by rw [List.size_toArray,ST.cells_len ht];exact h.there) (by rw [List.size_toArray];exact ST.info ht) (all_oneCell_toArray cells_one)
  (k _ (h.stored ht) ((Fr.refl (fun k=>k=b) w).setCells (.inr rfl) 0 _))
theorem ESt.answer{w0 w:World}{b x s}(h:ESt w0 b x s w){t:ST}(ht:t.ok){ops rest}{op:Oper}{a:Act}{Q}(hgd:op.guard=none)(px py)(ho:op.op= .store 68 px py)(hx:a.eval px= .pointer (some ⟨b+1+1,0,none⟩))(hy:a.eval py= .agg t.cells.toArray)(k:∀W',Hid (SAt W' (b+1+1) t)→Hid (Fr No w0 W')→wpList prog ops Q rest (a.put op.dst undef) W'):wpList prog ops Q (op::rest) a w:=
 h.res.store ht hgd px py ho hx hy fun W' h1 h2=>k W' h1 (h.fr.any.trans (h2.mono fun k _ hk=>by show w0.heap.size≤k;have:=h.lo;omega):Fr (From w0) w0 W').ours
def exV:Except Int ST→Value
 | .ok t=> .tuple #[t.agg, .int .i64 0]
 | .error e=> .tuple #[ST.zero.agg, .int .i64 e]
theorem u64I_lt(v):u64I v<18446744073709551616:=by unfold u64I;omega
theorem u64I_wrap(v):IntKind.u64.wrap v=((u64I v:Nat):Int):=by rw [IntKind.wrap_u64];unfold u64I;omega
end Go.Proofs.YtfmcmfiebehhiaaGreatDoor

