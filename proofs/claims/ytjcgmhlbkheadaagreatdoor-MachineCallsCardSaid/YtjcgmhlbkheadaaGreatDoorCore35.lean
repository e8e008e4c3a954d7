/- package machine: Run. A world of the helpers, as the machine uses it. firewalllaw12.Set, firewalllaw13.Put: the arithmetic that they do. firewalllaw12.Set: an instruction put to such as may be .. -/
import Derived.Test.YtjcgmhlbkheadaaGreatDoorCore33
import Derived.Test.YtjcgmhlbkheadaaGreatDoorCore34
set_option linter.all false
set_option linter.unusedVariables false
set_option linter.unusedSimpArgs false
set_option maxRecDepth 100000
set_option maxHeartbeats 4000000
namespace Go.Proofs.YtjcgmhlbkheadaaGreatDoor
open Go.RowKit
def outV(a k:Int):Value:= .agg #[.int .u64 a, .int .i64 k]
def runV:Except Int (Nat×ST)→Value
 | .ok q=> .tuple #[outV (q.2.reg 0) q.1,q.2.agg, .int .i64 0]
 | .error e=> .tuple #[outV 0 0,ST.zero.agg, .int .i64 e]
structure OB(w:World)(b:Nat)(a k:Int):Prop where
 cells:CellsAt w b 0 [.int .u64 a, .int .i64 k]
 open_:∀j,w.frozen? ⟨b,j,none⟩=false
theorem OB.at{w:World}{b:Nat}{a k:Int}(h:OB w b a k):w.cell? ⟨b,0,none⟩=some (.int .u64 a)∧w.cell? ⟨b,1,none⟩=some (.int .i64 k):=by
 have h0:=h.cells 0 _ rfl
 have h1:=h.cells 1 _ rfl
 exact ⟨h0,h1⟩
theorem OB.fr{T:Nat→Prop}{w w':World}{b:Nat}{a k:Int}(h:OB w b a k)(hf:Fr T w w')(hb:¬T b):OB w' b a k:=
 ⟨hf.cells h.cells hb,fun j=>by rw [cells_frozen hf (World.block_lt_of_cell? w _ h.at.1) hb];exact h.open_ j⟩
theorem OB.put{w:World}{b:Nat}{a k:Int}(h:OB w b a k)(a' k':Int):OB ((w.setCell ⟨b,0,none⟩ (.int .u64 a')).setCell ⟨b,1,none⟩ (.int .i64 k')) b a' k':=by
 refine ⟨?_,fun j=>by rw [World.frozen?_setCell,World.frozen?_setCell];exact h.open_ j⟩
 intro j v hj
 rw [Nat.zero_add]
 match j,hj with
 |0,hj=>
  cases hj
  rw [World.cell?_setCell_other _ _ _ _ (by intro e;simp only [Addr.mk.injEq] at e;omega)]
  exact World.cell?_setCell_same _ _ _ h.at.1
 |1,hj=>
  cases hj
  exact World.cell?_setCell_same _ _ _ (by rw [World.cell?_setCell_other _ _ _ _ (by intro e;simp only [Addr.mk.injEq] at e;omega)];exact h.at.2)
structure RnS(w0 wr:World)(N bw mb:Nat)(ds:List MapD)(p:Nat)(RL:List Reg)(W:HW)(s:ST)(a k:Int)(w:World):Prop where
 wm:WM w0 N bw mb ds p RL W w
 out:OB w wr.heap.size a k
 st:SAt w (wr.heap.size+1) s
 fr:Fr (fun k=>Zof w0 N k∨wr.heap.size≤k) wr w
 lb:N≤wr.heap.size
theorem RnS.start{w0 wr:World}{N bw mb:Nat}{ds:List MapD}{p:Nat}{RL:List Reg}{W:HW}(h:WM w0 N bw mb ds p RL W wr)(t1 t2:TypeId):RnS w0 wr N bw mb ds p RL W ST.zero 0 0 ((wr.alloc (.cells #[.int .u64 0, .int .i64 0] t1)).alloc (.cells ST.zero.cells.toArray t2)):=by
 obtain ⟨W1,hW1⟩:∃W1,W1=wr.alloc (.cells #[.int .u64 0, .int .i64 0] t1):=⟨_,rfl⟩
 have z1:W1.heap.size=wr.heap.size+1:=by rw [hW1,size_alloc]
 have c1:OB W1 wr.heap.size 0 0:=by rw [hW1];exact ⟨CellsAt.new wr [.int .u64 0, .int .i64 0] _,fun j=>World.frozen?_alloc_new _ _ _ _⟩
 have f1:Fr No wr W1:=by rw [hW1];exact fr_alloc _ _
 rw [←hW1]
 exact ⟨h.to (f1.trans (fr_alloc _ _)),c1.fr (fr_alloc _ _) (T:=No) id,by rw [←z1];exact SAt.new W1 ST.zero_ok _,(f1.trans (fr_alloc _ _)).any,h.bound⟩
theorem RnS.no{w0 wr w w':World}{N bw mb:Nat}{ds:List MapD}{p:Nat}{RL:List Reg}{W:HW}{s:ST}{a k:Int}(h:RnS w0 wr N bw mb ds p RL W s a k w)(hf:Fr No w w'):RnS w0 wr N bw mb ds p RL W s a k w':=
 ⟨h.wm.to hf,h.out.fr hf id,h.st.fr hf id,h.fr.trans hf.any,h.lb⟩
theorem RnS.turn{w0 wr w w':World}{N bw mb:Nat}{ds:List MapD}{p:Nat}{RL:List Reg}{W W':HW}{s:ST}{a k:Int}(h:RnS w0 wr N bw mb ds p RL W s a k w)(hm:WM w0 N bw mb ds p RL W' w')(hf:Fr (Zof w0 N) w w'):RnS w0 wr N bw mb ds p RL W' s a k w':=by
 have hlb:=h.lb
 have n1:∀k,N≤k→¬Zof w0 N k:=fun k hk hz=>by have:=hz.2;omega
 exact ⟨hm,h.out.fr hf (n1 _ hlb),h.st.fr hf (n1 _ (by omega)),h.fr.trans (hf.mono fun _ _ hk=> .inl hk),hlb⟩
theorem RnS.state{w0 wr w w':World}{N bw mb:Nat}{ds:List MapD}{p:Nat}{RL:List Reg}{W:HW}{s t:ST}{a k:Int}(h:RnS w0 wr N bw mb ds p RL W s a k w)(ht:SAt w' (wr.heap.size+1) t)(hf:Fr (fun k=>k=wr.heap.size+1) w w'):RnS w0 wr N bw mb ds p RL W t a k w':=
 ⟨h.wm.beside hf (fun k hk=>by have:=h.lb;omega),h.out.fr hf (by omega),ht,h.fr.trans (hf.mono fun k _ hk=> .inr (by omega)),h.lb⟩
theorem RnS.put{w0 wr w:World}{N bw mb:Nat}{ds:List MapD}{p:Nat}{RL:List Reg}{W:HW}{s:ST}{a k:Int}(h:RnS w0 wr N bw mb ds p RL W s a k w)(a' k':Int):RnS w0 wr N bw mb ds p RL W s a' k' ((w.setCell ⟨wr.heap.size,0,none⟩ (.int .u64 a')).setCell ⟨wr.heap.size,1,none⟩ (.int .i64 k')):=by
 have hf:Fr (fun k=>k=wr.heap.size) w ((w.setCell ⟨wr.heap.size,0,none⟩ (.int .u64 a')).setCell ⟨wr.heap.size,1,none⟩ (.int .i64 k')):=((Fr.refl (fun k=>k=wr.heap.size) w).setCell (p:=⟨wr.heap.size,0,none⟩) (.inr rfl) _).setCell (p:=⟨wr.heap.size,1,none⟩) (.inr rfl) _
 exact ⟨h.wm.beside hf (fun k hk=>by have:=h.lb;omega),h.out.put a' k',h.st.fr hf (by omega),h.fr.trans (hf.mono fun k _ hk=> .inr (by omega)),h.lb⟩
theorem RnS.own{w0 wr w w':World}{N bw mb:Nat}{ds:List MapD}{p:Nat}{RL:List Reg}{W:HW}{s:ST}{a k:Int}(h:RnS w0 wr N bw mb ds p RL W s a k w){b:Nat}(hb:wr.heap.size+1<b)(hf:Fr (fun k=>k=b) w w'):RnS w0 wr N bw mb ds p RL W s a k w':=
 ⟨h.wm.beside hf (fun k hk=>by have:=h.lb;omega),h.out.fr hf (by omega),h.st.fr hf (by omega),h.fr.trans (hf.mono fun k _ hk=> .inr (by omega)),h.lb⟩
theorem RnS.store{w0 wr w:World}{N bw mb:Nat}{ds:List MapD}{p:Nat}{RL:List Reg}{W:HW}{s:ST}{a0 k0:Int}(h:RnS w0 wr N bw mb ds p RL W s a0 k0 w){t:ST}(ht:t.ok){ops:Array Oper}{rest:List Oper}{op:Oper}{a:Act}{Q:Exit→Act→World→Prop}(hgd:op.guard=none)(px py:Operand)(ho:op.op= .store 43 px py)
  (hx:a.eval px= .pointer (some ⟨wr.heap.size+1,0,none⟩)) (hy:a.eval py= .agg t.cells.toArray) (k:∀W',Hid (RnS w0 wr N bw mb ds p RL W t a0 k0 W')→wpList Tryz.prog ops Q rest (a.put op.dst undef) W'):wpList Tryz.prog ops Q (op::rest) a w:=
 h.st.store ht hgd px py ho hx hy fun W' h1 h2=>k W' (h.state h1 h2)
theorem RnS.end_{w0 wr w:World}{N bw mb:Nat}{ds:List MapD}{p:Nat}{RL:List Reg}{W:HW}{s:ST}{a k:Int}(h:RnS w0 wr N bw mb ds p RL W s a k w):Hid (WM w0 N bw mb ds p RL W w)∧Hid (Fr (Zof w0 N) wr w):=⟨h.wm,h.fr.mono fun k hk hz=>hz.resolve_right (by omega)⟩
theorem results_run{fn:Func}{a b t:Tmp}(h:fn.results= #[.cell a 40, .cell b 43, .tmp t])(tmps:Array Value)(w:World)(bo bs:Nat)(u k:Int)(s:ST)(hO:OB w bo u k)(hS:SAt w bs s)(ha:tmps.getD a undef= .pointer (some ⟨bo,0,none⟩))(hb:tmps.getD b undef= .pointer (some ⟨bs,0,none⟩)):
  (results fn tmps).run Tryz.prog w= .ok (.tuple #[outV u k,s.agg,tmps.getD t undef]) w:=by
 have h1:=run_loadVar_mid w bo 0 40 [.int .u64 u, .int .i64 k] _ hO.cells Tryz.underlying40 rfl (by kernel_rfl)
 have h2:=run_loadVar_mid w bs 0 43 s.cells _ hS.cells Tryz.underlying43 rfl (ST.info hS.ok)
 have ha':tmps[a]?.getD undef= .pointer (some ⟨bo,0,none⟩):=by rw [←Array.getD_eq_getD_getElem?];exact ha
 have hb':tmps[b]?.getD undef= .pointer (some ⟨bs,0,none⟩):=by rw [←Array.getD_eq_getD_getElem?];exact hb
 simp [results,h,ha',hb',h1,h2,asAddr,outV,ST.agg]
def GoodR(q:Except Int (Nat×ST)):Prop:=∀k s,q= .ok (k,s)→s.ok
def RunTo(w0 wr:World)(N bw mb:Nat)(ds:List MapD)(p:Nat)(RL:List Reg)(q:Except Int (Nat×ST)×HW)(e:Ending)(w':World):Prop:=e= .returned (runV q.1)∧Hid (WM w0 N bw mb ds p RL q.2 w')∧Hid (Fr (Zof w0 N) wr w')∧GoodR q.1
def RunAt(w0 wr:World)(N bw mb:Nat)(ds:List MapD)(p:Nat)(RL:List Reg)(code:List UInt8)(m:Nat)(A:Except Int (Nat×ST)×HW)(e:Int)(k:Nat)(w:World):Prop:=
 ∃W s,RnS w0 wr N bw mb ds p RL W s 0 0 w∧((e=0∧k≤m∧A=runL ds code (m-k) k W s)∨(e≠0∧k≤m+1∧A=(.error e,W)))
structure RnX(w0 wr:World)(N bw mb:Nat)(ds:List MapD)(p:Nat)(RL:List Reg)(W:HW)(s:ST)(bx:Nat)(x:XI)(w:World):Prop where
 r:RnS w0 wr N bw mb ds p RL W s 0 0 w
 x:XB w bx x
 lx:wr.heap.size+1<bx
theorem RnX.start{w0 wr w:World}{N bw mb:Nat}{ds:List MapD}{p:Nat}{RL:List Reg}{W:HW}{s:ST}(h:RnS w0 wr N bw mb ds p RL W s 0 0 w)(t:TypeId):RnX w0 wr N bw mb ds p RL W s w.heap.size XI.zero (w.alloc (.cells XI.zero.cells.toArray t)):=⟨h.no (fr_alloc _ _),XB.new w _ _,h.st.lt⟩
theorem RnX.no{w0 wr w w':World}{N bw mb:Nat}{ds:List MapD}{p:Nat}{RL:List Reg}{W:HW}{s:ST}{bx:Nat}{x:XI}(h:RnX w0 wr N bw mb ds p RL W s bx x w)(hf:Fr No w w'):RnX w0 wr N bw mb ds p RL W s bx x w':=⟨h.r.no hf,h.x.fr hf id,h.lx⟩
theorem RnX.store{w0 wr w:World}{N bw mb:Nat}{ds:List MapD}{p:Nat}{RL:List Reg}{W:HW}{s:ST}{bx:Nat}{x:XI}(h:RnX w0 wr N bw mb ds p RL W s bx x w){y:XI}{ops:Array Oper}{rest:List Oper}{op:Oper}{a:Act}{Q:Exit→Act→World→Prop}(hgd:op.guard=none)(px py:Operand)(ho:op.op= .store 27 px py)
  (hx:a.eval px= .pointer (some ⟨bx,0,none⟩)) (hy:a.eval py=y.agg) (k:∀W',Hid (RnX w0 wr N bw mb ds p RL W s bx y W')→wpList Tryz.prog ops Q rest (a.put op.dst undef) W'):wpList Tryz.prog ops Q (op::rest) a w:=
 h.x.store hgd px py ho hx hy fun W' h1 h2=>k W' ⟨h.r.own h.lx h2,h1,h.lx⟩
theorem run_less{m k:Nat}(h:k<m){z:Int}(hz:z=((k+1:Nat):Int)):(if intOf (Value.int .i64 0)=0 then m+2-(intOf (Value.int .i64 z)).toNat else 0)<(if intOf (Value.int .i64 0)=0 then m+2-(intOf (Value.int .i64 (k:Int))).toNat else 0):=by
 subst hz
 simp only [intOf,if_true,Int.toNat_natCast]
 omega
theorem runL_halt{ds:List MapD}{code:List UInt8}{n k:Nat}{W:HW}{s:ST}(h:s.pc=10485760):runL ds code n k W s=(.ok (k,s),W):=by cases n<;>(unfold runL;rw [if_pos h])
theorem runL_budget{ds:List MapD}{code:List UInt8}{k:Nat}{W:HW}{s:ST}(h:s.pc≠10485760):runL ds code 0 k W s=(.error 100,W):=by unfold runL;rw [if_neg h]
theorem runL_none{ds:List MapD}{code:List UInt8}{n k:Nat}{W:HW}{s:ST}(h:s.pc≠10485760)(hf:fetchM code s.pc=none):runL ds code (n+1) k W s=(.error 110,W):=by
 show (if _ then _ else _)=_
 rw [if_neg h];simp only [hf]
theorem runL_err{ds:List MapD}{code:List UInt8}{n k:Nat}{W V:HW}{s:ST}{q:XI×Nat}{g:Int}(h:s.pc≠10485760)(hf:fetchM code s.pc=some q)(hs:stepM ds W q.1 q.2 s=(.error g,V)):runL ds code (n+1) k W s=(.error g,V):=by
 show (if _ then _ else _)=_
 rw [if_neg h];simp only [hf,hs]
theorem runL_ok{ds:List MapD}{code:List UInt8}{n k:Nat}{W V:HW}{s t:ST}{q:XI×Nat}(h:s.pc≠10485760)(hf:fetchM code s.pc=some q)(hs:stepM ds W q.1 q.2 s=(.ok t,V)):runL ds code (n+1) k W s=runL ds code n (k+1) V t:=by
 show (if _ then _ else _)=_
 rw [if_neg h];simp only [hf,hs]
theorem OB.there{w:World}{b:Nat}{a k:Int}(h:OB w b a k):w.there b 0 2:=fun j hj=>by
 rw [Nat.zero_add]
 refine ⟨?_,h.open_ j⟩
 match j,hj with
 |0,_=>rw [h.at.1];rfl
 |1,_=>rw [h.at.2];rfl
theorem RnS.outs{w0 wr w:World}{N bw mb:Nat}{ds:List MapD}{p:Nat}{RL:List Reg}{W:HW}{s:ST}{a k:Int}(h:RnS w0 wr N bw mb ds p RL W s a k w)(a' k':Int):RnS w0 wr N bw mb ds p RL W s a' k' (w.setCells wr.heap.size 0 [.int .u64 a', .int .i64 k']):=by
 have hf:Fr (fun k=>k=wr.heap.size) w (w.setCells wr.heap.size 0 [.int .u64 a', .int .i64 k']):=(Fr.refl (fun k=>k=wr.heap.size) w).setCells (.inr rfl) 0 _
 exact ⟨h.wm.beside hf (fun k hk=>by have:=h.lb;omega),⟨World.rangeAt_setCells_same w wr.heap.size 0 _ h.out.there,fun j=>by rw [World.frozen?_setCells];exact h.out.open_ j⟩,h.st.fr hf (by omega),h.fr.trans (hf.mono fun k _ hk=> .inr (by omega)),h.lb⟩
theorem runM_err{ds:List MapD}{code:List UInt8}{most:Int}{W V:HW}{g:Int}(h:beginM W=(.error g,V)):runM ds code most W=(.error g,V):=by unfold runM;rw [h]
theorem runM_ok{ds:List MapD}{code:List UInt8}{most:Int}{W V:HW}{s:ST}(h:beginM W=(.ok s,V)):runM ds code most W=runL ds code most.toNat 0 V s:=by unfold runM;rw [h]
theorem run_any{w0 wo:World}{N bw mb:Nat}{ds:List MapD}{p:Nat}{RL:List Reg}{W:HW}(h:WM w0 N bw mb ds p RL W wo)(hm:MachAt w0)(code:List UInt8)(hl:code.length≤1000000)(most:Int)(hmo: -9223372036854775808≤most∧most≤1000000):
  Calls Tryz.prog 7 #[.pointer (some ⟨bw,0,none⟩), .string (bA' code), .int .i64 most] wo fun e w'=>RunTo w0 wo N bw mb ds p RL (runM ds code most W) e w':=by
 have HM:=Lib.hid hm
 have HS:Hid (∀t1 t2,_):=RnS.start h
 have HB:Hid (∀W',WM w0 N bw mb ds p RL W W'→_):=fun W' hW=>begin_any hW
 obtain ⟨m,hmt⟩:∃m,most.toNat=m:=⟨_,rfl⟩
 have hm6:m≤1000000:=by omega
 obtain ⟨A,hA⟩:∃A,runM ds code most W=A:=⟨_,rfl⟩
 have HA:=Lib.hid hA
 rw [hA]
 have HGB:Hid (GoodX (beginM W).1):=by
  refine Lib.hid ?_
  exact GoodX.exE (ST.ok.at_ (ST.zero_ok.set 4 (by decide)) (by decide))
 clear hA hm
 have HST:Hid (∀(x:XI) (next:Nat) (W':HW) (s:ST) w',WM w0 N bw mb ds p RL W' w'→s.ok→x.ok→next<18446744073709551616→Calls Tryz.prog 12 #[.pointer (some ⟨bw,0,none⟩),x.agg, .int .u64 next,s.agg] w' fun e w''=>StepTo w0 w' N bw mb ds p RL (stepM ds W' x next s) e w''):=fun x next W' s w' h1 h2 h3 h4=>step_any h1 HM.out x next s h2 h3 h4
 have HFE:Hid (∀(pc:Nat) w',Fr No w0 w'→Calls Tryz.prog 26 #[.string (bA' code), .int .u64 pc] w' fun e w''=>e= .returned (fetchV (fetchM code pc))∧Fr No w' w''):=fun pc w' h1=>fetch_any code hl pc w' (HM.out.fr h1)
 have HFO:Hid (∀pc q,fetchM code pc=some q→q.1.ok∧q.2<18446744073709551616):=by
  refine Lib.hid ?_
  intro pc q hq
  unfold fetchM at hq
  dsimp only at hq
  split at hq
  ·cases hq
  ·split at hq
   ·cases hq
   ·rename_i u hu
    obtain rfl:=Option.some.inj hq
    exact ⟨(decode_is (n:=u.2) (y:=u.1) hu).1,Nat.mod_lt _ (by decide)⟩
 clear h
 go_enter Tryz.func7,Tryz.ntmps7
 go_upto_region 1 with fail
 refine wp_world (fun W1=>Hid (RnS w0 wo N bw mb ds p RL W ST.zero 0 0 W1)) (by exact HS.out _ _) ?_
 intro W1 HL
 clear HS
 go_cut [8] from 13 to 16 (fun s8 wx=>∃e:Int,s8= .int .i64 e∧Hid (RunAt w0 wo N bw mb ds p RL code m A e 0 wx))
 case first=>
  obtain ⟨⟨q,V⟩,hB⟩:∃B,beginM W=B:=⟨_,rfl⟩
  rw [hB] at HB HGB
  cases q with
  |error g=>
   have HAB:Hid (A=(.error g,V)):=by rw [←HA.out];exact Lib.hid (runM_err hB)
   clear HA hB hmt
   have HQ:Hid (∀W',WM w0 N bw mb ds p RL W W'→Calls Tryz.prog 9 #[.pointer (some ⟨bw,0,none⟩)] W' fun e w'=>e= .returned (.tuple #[ST.zero.agg, .int .i64 g])∧Hid (WM w0 N bw mb ds p RL V w')∧Hid (Fr (Zof w0 N) W' w')):=fun W' hW=>HB.out W' hW
   clear HB
   go_wp2_with (first
    |(go_at_call 9;(with_reducible refine (HQ.out _ HL.out.wm).mono ?_);rintro e w2 ⟨rfl,hw2,hf2⟩;replace HL:=Lib.hid (HL.out.turn hw2.out hf2.out);clear hw2 hf2)
    |(refine HL.out.store ST.zero_ok rfl (.tmp 7) (.tmp 15) rfl rfl rfl ?_;intro W9 HL))
   go_meet
   exact ⟨g,rfl,V,ST.zero,HL.out, .inr ⟨HGB.out.2 g rfl,by omega,HAB.out⟩⟩
  |ok s=>
   have HAB:Hid (A=runL ds code m 0 V s):=by rw [←HA.out,←hmt];exact Lib.hid (runM_ok hB)
   clear HA hB hmt
   have HQ:Hid (∀W',WM w0 N bw mb ds p RL W W'→Calls Tryz.prog 9 #[.pointer (some ⟨bw,0,none⟩)] W' fun e w'=>e= .returned (.tuple #[s.agg, .int .i64 0])∧Hid (WM w0 N bw mb ds p RL V w')∧Hid (Fr (Zof w0 N) W' w')):=fun W' hW=>HB.out W' hW
   clear HB
   go_wp2_with (first
    |(go_at_call 9;(with_reducible refine (HQ.out _ HL.out.wm).mono ?_);rintro e w2 ⟨rfl,hw2,hf2⟩;replace HL:=Lib.hid (HL.out.turn hw2.out hf2.out);clear hw2 hf2)
    |(refine HL.out.store (HGB.out.1 s rfl) rfl (.tmp 7) (.tmp 15) rfl rfl rfl ?_;intro W9 HL))
   go_meet
   exact ⟨0,rfl,V,s,HL.out, .inl ⟨rfl,by omega,HAB.out⟩⟩
 case rest=>
  obtain ⟨e0,rfl,HR⟩:=hcut
  clear HL HB HGB HA
  have HMT:Hid (most.toNat=m∧-9223372036854775808≤most∧most≤1000000∧m≤1000000):=⟨hmt,hmo.1,hmo.2,hm6⟩
  clear hmt hmo hm6 hl
  go_wp2_with fail
  go_loopw [8,9] (fun s8 s9 wl=>∃(e:Int) (k:Nat),s8= .int .i64 e∧s9= .int .i64 k∧Hid (RunAt w0 wo N bw mb ds p RL code m A e k wl)) (fun s8 s9 _=>if intOf s8=0 then m+2-(intOf s9).toNat else 0)
  case atStart=>exact ⟨e0,0,rfl,rfl,HR⟩
  case round=>
   obtain ⟨e,k,rfl,rfl,HR⟩:=hrel
   obtain ⟨V,s,hL,(⟨rfl,hk,hA0⟩|⟨he,hk,hA0⟩)⟩:=HR.out
   ·have HL:=Lib.hid hL
    have hA:=Lib.hid hA0
    have HK:=Lib.hid hk
    clear hL hA0 hk HR
    have c20:=HL.out.st.at.2.2.2.2
    by_cases hp:s.pc=10485760
    ·have q0:((s.pc:Int)==10485760)=true:=by rw [beq_iff_eq];omega
     have hA2:Hid (A=(.ok (k,s),V)):=by
      refine Lib.hid ?_
      rw [hA.out]
      exact runL_halt hp
     clear hp hA HK
     go_upto_region 6 with fail
     go_cut [8] from 24 to 29 (fun s8 wx=>s8= .int .i64 0∧Hid (RnS w0 wo N bw mb ds p RL V s (s.reg 0) k wx))
     case first=>
      rename_i J K' hJ hK
      refine wp_region_made [(7, .pointer (some ⟨wo.heap.size+1,0,none⟩)),(6, .pointer (some ⟨wo.heap.size,0,none⟩)),(9, .int .i64 k)]
       [some (.pointer (some ⟨wo.heap.size+1,0,none⟩)),some (.pointer (some ⟨wo.heap.size+1,0,none⟩)),some (.int .u64 (s.reg 0)),some (.int .i64 k),some (.agg #[.int .u64 (s.reg 0), .int .i64 k]),some (.agg s.cells.toArray),none,none,some (.int .i64 0)]
       (fun h W'=>∃a' k':Int,RnS w0 wo N bw mb ds p RL V s a' k' W'∧(h 6≠none→a'=(s.reg 0:Int)∧k'=(k:Int))) (by kernel_rfl) (by kernel_rfl) (by kernel_rfl) (by kernel_rfl) ⟨rfl,rfl,rfl,trivial⟩ ⟨0,0,HL.out.no ((Fr.refl _ _).drew),fun h=>absurd rfl h⟩ ?_ ?_ ?_
      ·intro q o c ho hc h A' W' hS hpre hb
       obtain ⟨a',k',hR, -⟩:=hS
       have hc0:=hR.st.reg (i:=0) (by decide)
       match q,ho,hc,hpre with
       |0,ho,hc,hpre=>
        cases ho;cases hc
        have e:=base_val hb 7 (v:= .pointer (some ⟨wo.heap.size+1,0,none⟩)) (by simp)
        show (execOp A'.eval ⟨some 24, .fieldAddr 43 (.tmp 7) 0,_,_,_,_⟩).run Tryz.prog W'=_
        simp only [execOp,e]
        first|kernel_rfl|simp [go_sem]
       |1,ho,hc,hpre=>cases ho;cases hc;exact do_index (pre_val hpre 0 24 (by kernel_rfl) rfl rfl) rfl (by kernel_rfl)
       |2,ho,hc,hpre=>cases ho;cases hc;exact do_load (pre_val hpre 1 25 (by kernel_rfl) rfl rfl) (by simp [go_sem,hc0])
       |3,ho,hc,hpre=>cases ho;cases hc;exact do_move (base_val hb 9 (by simp))
       |4,ho,hc,hpre=>
        cases ho;cases hc
        have e1:=pre_val hpre 2 26 (by kernel_rfl) rfl rfl
        have e2:=pre_val hpre 3 27 (by kernel_rfl) rfl rfl
        have e3:A'.eval (.tmp 26)= .int .u64 (s.reg 0):=e1
        have e4:A'.eval (.tmp 27)= .int .i64 k:=e2
        show (execOp A'.eval ⟨some 28, .build 40 #[(0, .tmp 26),(1, .tmp 27)],_,_,_,_⟩).run Tryz.prog W'=_
        simp only [execOp]
        rw [show Array.map (fun x=>(x.fst,A'.eval x.snd)) #[(0,Operand.tmp 26),(1,Operand.tmp 27)]= #[(0, .int .u64 (s.reg 0)),(1, .int .i64 k)] from by simp [e3,e4]]
        first|kernel_rfl|(simp [go_sem];done)
       |5,ho,hc,hpre=>cases ho;cases hc;exact do_load (base_val hb 7 (by simp)) (run_loadAt_mid W' (wo.heap.size+1) 0 _ _ _ hR.st.cells Tryz.underlying43 rfl (ST.info hR.st.ok))
       |6,ho,hc,hpre=>cases hc
       |7,ho,hc,hpre=>cases hc
       |8,ho,hc,hpre=>cases ho;cases hc;exact do_assign rfl
       |n+9,ho,hc,hpre=>cases hc
      ·intro q o ho hc h A' W' hdf hi hS hpre hb
       obtain ⟨a',k',hR,hk⟩:=hS
       match q,ho,hc,hi,hpre with
       |0,ho,hc,hi,hpre=>cases hc
       |1,ho,hc,hi,hpre=>cases hc
       |2,ho,hc,hi,hpre=>cases hc
       |3,ho,hc,hi,hpre=>cases hc
       |4,ho,hc,hi,hpre=>cases hc
       |5,ho,hc,hi,hpre=>cases hc
       |6,ho,hc,hi,hpre=>
        cases ho
        exact do_store (base_val hb 6 (by simp)) (pre_val2 hpre 4 28 (by kernel_rfl) rfl rfl) hR.out.there (by kernel_rfl) (by simp [Value.oneCell']) ⟨undef,rfl,_,_,hR.outs (s.reg 0) k,fun _=>⟨rfl,rfl⟩⟩
       |7,ho,hc,hi,hpre=>
        cases ho
        have hth:∀u:Unit,W'.there (wo.heap.size+1) 0 s.cells.toArray.size:=fun _=>by rw [show s.cells.toArray.size=21 from by rw [List.size_toArray,ST.cells_len hR.st.ok]];exact hR.st.there
        have hin:∀u:Unit,(Tryz.prog.info? 43).map (·.size)=some s.cells.toArray.size:=fun _=>by rw [List.size_toArray];exact ST.info hR.st.ok
        refine do_store (base_val hb 7 (by simp)) (pre_val2 hpre 5 29 (by kernel_rfl) rfl rfl) (hth ()) (hin ()) (all_oneCell_toArray cells_one) ⟨undef,rfl,a',k',hR.state (hR.st.stored hR.st.ok) ((Fr.refl (fun k=>k=wo.heap.size+1) W').setCells (.inr rfl) 0 _),?_⟩
        rw [setH_ne (by decide)]
        exact hk
       |8,ho,hc,hi,hpre=>cases hc
       |n+9,ho,hc,hi,hpre=>cases ho
      ·intro h V' W' hV hS
       obtain ⟨a',k',hR,hk⟩:=hS
       obtain ⟨rfl,rfl⟩:=hk (by rw [show h 6=some (V' 6) from hV 6 (by decide)];exact Option.some_ne_none _)
       have e8:V' 8= .int .i64 0:=(Option.some.inj (hV 8 (by decide))).symm
       exact hK _ _ (Met.intro (hJ _ _ ⟨V' 8,V' 0,V' 1,V' 2,V' 3,V' 4,V' 5,⟨e8,hR⟩,by kernel_rfl⟩))
     case rest=>
      obtain ⟨rfl,HL⟩:=hcut
      go_wp2_with fail
      exact bodyPost_ret (results_run Tryz.results7 _ _ _ _ _ _ _ HL.out.out HL.out.st rfl rfl) rfl ⟨by rw [hA2.out];rfl,by rw [hA2.out];exact HL.out.end_.1,HL.out.end_.2,by rw [hA2.out];intro k' s' h';cases h';exact HL.out.st.ok⟩
    ·have q0:((s.pc:Int)==10485760)=false:=by rw [beq_eq_false_iff_ne];omega
     have HP:=Lib.hid hp
     clear hp
     by_cases hkm:k<m
     ·have q1:decide ((k:Int)≥most)=false:=by have:=HMT.out;simp;omega
      have q2:decide (most≤(k:Int))=false:=by have:=HMT.out;simp;omega
      have mk:most=(m:Int):=by have:=HMT.out;omega
      have ek:wrap64 ((k:Int)+1)=((k+1:Nat):Int):=by rw [IntWalk.wrap64_in _ (by have:=HMT.out;omega)];rfl
      have HF:=Lib.hid (HFE.out s.pc)
      cases hf:fetchM code s.pc with
      |none=>
       have hA:Hid (A=(.error 110,V)):=by
        refine Lib.hid ?_
        rw [hA.out,show m-k=(m-(k+1))+1 by omega]
        exact runL_none HP.out hf
       rw [hf] at HF
       simp only [fetchV] at HF
       clear hf mk
       as_aux_lemma=>
        go_upto_region 10 with fail
        refine wp_world (fun W2=>Hid (RnX w0 wo N bw mb ds p RL V s wr.heap.size XI.zero W2)) (by exact Lib.hid (RnX.start HL.out _)) ?_
        intro W2 HX
        clear c20 HL
        have c20:=HX.out.r.st.at.2.2.2.2
        go_wp2_with (first
         |(go_at_call 26;(with_reducible refine (HF.out _ HX.out.r.wm.fr).mono ?_);rintro e w3 ⟨rfl,hf3⟩;replace HX:=Lib.hid (HX.out.no hf3);clear hf3)
         |(refine HX.out.store (y:=XI.zero) rfl (.tmp 10) (.tmp 38) rfl rfl rfl ?_;intro W4 HX))
        go_roundw
        case rel=>exact ⟨110,k+1,rfl,by go_num,⟨V,s,HX.out.r, .inr ⟨by decide,by omega,hA.out⟩⟩⟩
        case measure=>simp [intOf]<;>omega
      |some q=>
       obtain ⟨x,next⟩:=q
       obtain ⟨hxo,hno⟩:=HFO.out _ _ hf
       simp only at hxo hno
       rw [hf] at HF
       simp only [fetchV] at HF
       have HSA:Hid (∀w',WM w0 N bw mb ds p RL V w'→Calls Tryz.prog 12 #[.pointer (some ⟨bw,0,none⟩),x.agg, .int .u64 next, .agg s.cells.toArray] w' fun e w''=>StepTo w0 w' N bw mb ds p RL (stepM ds V x next s) e w''):=fun w' hw=>HST.out x next V s w' hw HL.out.st.ok hxo hno
       obtain ⟨⟨r,V2⟩,hs⟩:∃r,stepM ds V x next s=r:=⟨_,rfl⟩
       have HGS:Hid (GoodX r):=by
        have:=stepM_ok HL.out.wm x HL.out.st.ok hno
        rw [hs] at this
        exact Lib.hid this
       rw [hs] at HSA
       cases r with
       |error g=>
        have hA:Hid (A=(.error g,V2)):=by
         refine Lib.hid ?_
         rw [hA.out,show m-k=(m-(k+1))+1 by omega]
         exact runL_err HP.out hf hs
        have HSB:Hid (∀w',WM w0 N bw mb ds p RL V w'→Calls Tryz.prog 12 #[.pointer (some ⟨bw,0,none⟩),x.agg, .int .u64 next, .agg s.cells.toArray] w' fun e w''=>e= .returned (.tuple #[ST.zero.agg, .int .i64 g])∧Hid (WM w0 N bw mb ds p RL V2 w'')∧Hid (Fr (Zof w0 N) w' w'')):=fun w' hw=>HSA.out w' hw
        clear hf hs hxo hno mk HSA
        as_aux_lemma=>
         go_upto_region 10 with fail
         refine wp_world (fun W2=>Hid (RnX w0 wo N bw mb ds p RL V s wr.heap.size XI.zero W2)) (by exact Lib.hid (RnX.start HL.out _)) ?_
         intro W2 HX
         clear c20 HL
         have c20:=HX.out.r.st.at.2.2.2.2
         go_wp2_with (first
          |(go_at_call 26;(with_reducible refine (HF.out _ HX.out.r.wm.fr).mono ?_);rintro e w3 ⟨rfl,hf3⟩;replace HX:=Lib.hid (HX.out.no hf3);clear hf3)
          |(refine HX.out.store (y:=x) rfl (.tmp 10) (.tmp 38) rfl rfl rfl ?_;intro W4 HX)
          |(refine HX.out.x.load rfl (.tmp 10) rfl rfl ?_)
          |(refine HX.out.r.st.load rfl (.tmp 7) rfl rfl ?_)
          |(go_at_call 12;(with_reducible refine (HSB.out _ HX.out.r.wm).mono ?_);rintro e w5 ⟨rfl,hw5,hf5⟩;have HL:=Lib.hid (HX.out.r.turn hw5.out hf5.out);clear hw5 hf5)
          |(refine HL.out.store ST.zero_ok rfl (.tmp 7) (.tmp 49) rfl rfl rfl ?_;intro W6 HL))
         go_roundw
         case rel=>exact ⟨g,k+1,rfl,by go_num,⟨V2,ST.zero,HL.out, .inr ⟨HGS.out.2 g rfl,by omega,hA.out⟩⟩⟩
         case measure=>simp [intOf,HGS.out.2 g rfl]<;>omega
       |ok t=>
        have hA:Hid (A=runL ds code (m-(k+1)) (k+1) V2 t):=by
         refine Lib.hid ?_
         rw [hA.out,show m-k=(m-(k+1))+1 by omega]
         exact runL_ok HP.out hf hs
        have HSB:Hid (∀w',WM w0 N bw mb ds p RL V w'→Calls Tryz.prog 12 #[.pointer (some ⟨bw,0,none⟩),x.agg, .int .u64 next, .agg s.cells.toArray] w' fun e w''=>e= .returned (.tuple #[t.agg, .int .i64 0])∧Hid (WM w0 N bw mb ds p RL V2 w'')∧Hid (Fr (Zof w0 N) w' w'')):=fun w' hw=>HSA.out w' hw
        clear hf hs hxo hno mk HSA
        as_aux_lemma=>
         go_upto_region 10 with fail
         refine wp_world (fun W2=>Hid (RnX w0 wo N bw mb ds p RL V s wr.heap.size XI.zero W2)) (by exact Lib.hid (RnX.start HL.out _)) ?_
         intro W2 HX
         clear c20 HL
         have c20:=HX.out.r.st.at.2.2.2.2
         go_wp2_with (first
          |(go_at_call 26;(with_reducible refine (HF.out _ HX.out.r.wm.fr).mono ?_);rintro e w3 ⟨rfl,hf3⟩;replace HX:=Lib.hid (HX.out.no hf3);clear hf3)
          |(refine HX.out.store (y:=x) rfl (.tmp 10) (.tmp 38) rfl rfl rfl ?_;intro W4 HX)
          |(refine HX.out.x.load rfl (.tmp 10) rfl rfl ?_)
          |(refine HX.out.r.st.load rfl (.tmp 7) rfl rfl ?_)
          |(go_at_call 12;(with_reducible refine (HSB.out _ HX.out.r.wm).mono ?_);rintro e w5 ⟨rfl,hw5,hf5⟩;have HL:=Lib.hid (HX.out.r.turn hw5.out hf5.out);clear hw5 hf5)
          |(refine HL.out.store (HGS.out.1 t rfl) rfl (.tmp 7) (.tmp 49) rfl rfl rfl ?_;intro W6 HL))
         go_roundw
         case rel=>exact ⟨0,k+1,rfl,by go_num,⟨V2,t,HL.out, .inl ⟨rfl,by omega,hA.out⟩⟩⟩
         case measure=>exact run_less hkm ek
     ·have q1:decide ((k:Int)≥most)=true:=by have:=HMT.out;simp;omega
      have q2:decide (most≤(k:Int))=true:=by have:=HMT.out;simp;omega
      have hA:Hid (A=(.error 100,V)):=by
       refine Lib.hid ?_
       rw [hA.out,show m-k=0 by omega]
       exact runL_budget HP.out
      clear hkm HK
      have oo:=HL.out.out.open_
      obtain ⟨r0,r1⟩:=HL.out.out.at
      have HLP:=Lib.hid (HL.out.put 0 0)
      go_wp2_with (first
       |(refine HLP.out.store ST.zero_ok rfl (.tmp 7) (.tmp 52) rfl rfl rfl ?_;intro W9 HL))
      exact bodyPost_ret (results_run Tryz.results7 _ _ _ _ 0 0 ST.zero HL.out.out HL.out.st rfl rfl) rfl ⟨by rw [hA.out];rfl,by rw [hA.out];exact HL.out.end_.1,HL.out.end_.2,by rw [hA.out];intro k' s' h';cases h'⟩
   ·have q0:(e==0)=false:=by rw [beq_eq_false_iff_ne];exact he
    have hA:=Lib.hid hA0
    have HL:=Lib.hid hL
    clear hA0 hL he hk HR
    have oo:=HL.out.out.open_
    obtain ⟨r0,r1⟩:=HL.out.out.at
    have HLP:=Lib.hid (HL.out.put 0 0)
    go_wp2_with (first
     |(refine HLP.out.store ST.zero_ok rfl (.tmp 7) (.tmp 52) rfl rfl rfl ?_;intro W9 HL))
    exact bodyPost_ret (results_run Tryz.results7 _ _ _ _ 0 0 ST.zero HL.out.out HL.out.st rfl rfl) rfl ⟨by rw [hA.out];rfl,by rw [hA.out];exact HL.out.end_.1,HL.out.end_.2,by rw [hA.out];intro k' s' h';cases h'⟩
theorem WM.of{w0 wr:World}{bw b mb p:Nat}{ds:List MapD}{RL:List Reg}{D:List Int}{S:List Tab}{m:List Reg}{A H T:Nat→Prop}{mv ov dv:Value}(h:WAt w0 bw b mb ds p RL D S m A H T mv ov dv wr)(ok:HWok ds ⟨D,S,m⟩):WM w0 wr.heap.size bw mb ds p RL ⟨D,S,m⟩ wr:=
 ⟨⟨b,A,H,T,mv,ov,dv,h,h.lt,h.ltv⟩,ok,World.block_lt_of_cell? wr _ h.c0,Nat.le_refl _⟩
theorem and_low_i64(x:Int)(n:Nat)(hn:n≤6)(m:Int)(hm:m=((2^n-1:Nat):Int)):bits .and .i64 x m=x%((2^n:Nat):Int):=by
 have hp:0<2^n:=Nat.two_pow_pos n
 have hle:2^n≤64:=by
  have:=Nat.pow_le_pow_right (n:=2) (by decide) hn
  exact this
 have hd:(2^n:Nat)∣18446744073709551616:=by
  rw [show (18446744073709551616:Nat)=2^64 by rfl]
  exact Nat.pow_dvd_pow 2 (by omega)
 subst hm
 unfold bits
 simp only [BitVec.ofInt_natCast,BitVec.toNat_and,BitVec.toNat_ofNat,BitVec.toNat_ofInt]
 rw [show IntKind.i64.bits=64 by rfl,Nat.mod_eq_of_lt (show 2^n-1<2^64 by omega),Nat.and_two_pow_sub_one_eq_mod]
 have hlt:=Nat.mod_lt (x%((2^64:Nat):Int)).toNat hp
 rw [IntWalk.i64_in _ (by omega)]
 have h0:0≤x%((2^64:Nat):Int):=Int.emod_nonneg _ (by decide)
 rw [Int.natCast_emod,Int.toNat_of_nonneg h0]
 exact Int.emod_emod_of_dvd x (Int.natCast_dvd_natCast.2 hd)
theorem and_15(x:Int):bits .and .i64 x 15=x%16:=and_low_i64 x 4 (by decide) 15 rfl
theorem and_3(x:Int):bits .and .i64 x 3=x%4:=and_low_i64 x 2 (by decide) 3 rfl
theorem and_31(x:Int):bits .and .i64 x 31=x%32:=and_low_i64 x 5 (by decide) 31 rfl
theorem and_63(x:Int):bits .and .i64 x 63=x%64:=and_low_i64 x 6 (by decide) 63 rfl
theorem rem_pos(x n:Int)(hn:0<n):(x.tmod n+n).tmod n=x%n:=by
 have h1: -n<x.tmod n:=Int.lt_tmod_of_pos x hn
 rw [Int.tmod_eq_emod_of_nonneg (by omega)]
 rw [Int.add_emod_right]
 exact Int.emod_eq_emod_iff_emod_sub_eq_zero.2 (by
  have h2:=Int.tmod_add_mul_tdiv x n
  rw [show x.tmod n-x= -(n*x.tdiv n) by omega]
  rw [←Int.mul_neg]
  exact Int.mul_emod_right n _)
theorem results_x1{fn:Func}{a:Tmp}(h:fn.results= #[.cell a 27])(tmps:Array Value)(w:World)(b:Nat)(x:XI)(hS:XB w b x)(ha:tmps.getD a undef= .pointer (some ⟨b,0,none⟩)):
  (results fn tmps).run Tryz.prog w= .ok x.agg w:=by
 have hl:=run_loadVar_mid w b 0 27 x.cells _ hS.cells Tryz.underlying27 rfl (XI.info x)
 have ha':tmps[a]?.getD undef= .pointer (some ⟨b,0,none⟩):=by rw [←Array.getD_eq_getD_getElem?];exact ha
 have e:(.agg x.cells.toArray:Value)=x.agg:=rfl
 rw [e] at hl
 simp [results,h,ha',hl,asAddr]
structure StX(w0:World)(x u y:XI)(w:World):Prop where
 fr:Fr No w0 w
 x:XB w w0.heap.size x
 res:XB w (w0.heap.size+1) u
 y:XB w (w0.heap.size+1+1) y
theorem StX.start(w:World)(x y:XI)(t1 t2 t3:TypeId)(n:Nat):StX w x XI.zero y ((((w.alloc (.cells x.cells.toArray t1)).alloc (.cells XI.zero.cells.toArray t2)).drewN n).alloc (.cells y.cells.toArray t3)):=by
 obtain ⟨W1,hW1⟩:∃W1,W1=w.alloc (.cells x.cells.toArray t1):=⟨_,rfl⟩
 obtain ⟨W2,hW2⟩:∃W2,W2=W1.alloc (.cells XI.zero.cells.toArray t2):=⟨_,rfl⟩
 have z1:W1.heap.size=w.heap.size+1:=by rw [hW1,size_alloc]
 have z2:(W2.drewN n).heap.size=w.heap.size+1+1:=by show W2.heap.size=_;rw [hW2,size_alloc,z1]
 have c1:XB W1 w.heap.size x:=by rw [hW1];exact XB.new w _ _
 have c2:XB W2 (w.heap.size+1) XI.zero:=by rw [hW2,←z1];exact XB.new W1 _ _
 have f1:Fr No w W1:=by rw [hW1];exact fr_alloc _ _
 have f2:Fr No W1 W2:=by rw [hW2];exact fr_alloc _ _
 have f3:Fr No W2 ((W2.drewN n).alloc (.cells y.cells.toArray t3)):=((Fr.refl No W2).drewN n).trans (fr_alloc _ _)
 rw [←hW1,←hW2]
 exact ⟨f1.trans (f2.trans f3),c1.fr (f2.trans f3) id,c2.fr f3 id,by rw [←z2];exact XB.new _ _ _⟩
theorem StX.answer{w0 w:World}{x u y:XI}(h:StX w0 x u y w){v:XI}{ops:Array Oper}{rest:List Oper}{op:Oper}{a:Act}{Q:Exit→Act→World→Prop}(hgd:op.guard=none)(px py:Operand)(ho:op.op= .store 27 px py)
  (hx:a.eval px= .pointer (some ⟨w0.heap.size+1,0,none⟩)) (hy:a.eval py=v.agg) (k:∀W',Hid (StX w0 x v y W')→wpList Tryz.prog ops Q rest (a.put op.dst undef) W'):wpList Tryz.prog ops Q (op::rest) a w:=
 h.res.store hgd px py ho hx hy fun W' h1 h2=>k W' ⟨(h.fr.any.trans (h2.mono fun k _ hk=>by show w0.heap.size≤k;omega):Fr (From w0) w0 W').ours,h.x.fr h2 (by omega),h1,h.y.fr h2 (by omega)⟩
end Go.Proofs.YtjcgmhlbkheadaaGreatDoor
