/- Regions that draw their order and set fields of one box, once each: one goal an operation. Regions that draw their order and hold calls whose answers are known: one goal an operation. firewallref11: .. -/
import Derived.Test.YtjcgmhlbkheadaaGreatDoorCore34
import Derived.Test.YtjcgmhlbkheadaaGreatDoorCore22
import Derived.Test.YtjcgmhlbkheadaaGreatDoorCore18
import Derived.Test.YtjcgmhlbkheadaaGreatDoorCore10
import Derived.Test.YtjcgmhlbkheadaaGreatDoorCore3
import Derived.Test.YtjcgmhlbkheadaaGreatDoorCore9
set_option linter.all false
set_option linter.unusedVariables false
set_option linter.unusedSimpArgs false
set_option maxRecDepth 100000
set_option maxHeartbeats 1000000
namespace Go.Proofs.YtjcgmhlbkheadaaGreatDoor
open Go.RowKit
def mixC(h:Nat→Option Value):List (Nat×Nat×Value)→List Value→List Value
 | [],L=>L
 |x::r,L=>mixC h r (if (h x.1).isSome then L.set x.2.1 x.2.2 else L)
def doneC:List (Nat×Nat×Value)→List Value→List Value
 | [],L=>L
 |x::r,L=>doneC r (L.set x.2.1 x.2.2)
theorem mixC_len(h:Nat→Option Value):∀(st:List (Nat×Nat×Value)) (L:List Value),(mixC h st L).length=L.length
 | [],_=>rfl
 |x::r,L=>by
  unfold mixC
  rw [mixC_len h r]
  split
  ·rw [List.length_set]
  ·rfl
theorem mixC_none:∀(st:List (Nat×Nat×Value)) (L:List Value),mixC (fun _=>none) st L=L
 | [],_=>rfl
 |x::r,L=>by
  unfold mixC
  exact mixC_none r L
theorem mixC_set(h:Nat→Option Value)(j:Nat)(v:Value):∀(st:List (Nat×Nat×Value)) (L:List Value),(∀x∈st,x.2.1≠j)→mixC h st (L.set j v)=(mixC h st L).set j v
 | [],_,_=>rfl
 |x::r,L,hn=>by
  unfold mixC
  rw [←mixC_set h j v r _ (fun y hy=>hn y (List.mem_cons_of_mem _ hy))]
  have:=hn x List.mem_cons_self
  split
  ·rw [List.set_comm _ _ (fun e=>this e.symm)]
  ·rfl
theorem mixC_other(h:Nat→Option Value)(k:Nat)(u:Value):∀(st:List (Nat×Nat×Value)) (L:List Value),(∀x∈st,x.1≠k)→mixC (setH h k u) st L=mixC h st L
 | [],_,_=>rfl
 |x::r,L,hn=>by
  unfold mixC
  rw [setH_ne (hn x List.mem_cons_self),mixC_other h k u r _ (fun y hy=>hn y (List.mem_cons_of_mem _ hy))]
def okStC(n:Nat):List (Nat×Nat×Value)→Bool
 | []=>true
 |x::r=>decide (x.2.1<n)&&(r.all fun y=>decide (y.1≠x.1)&&decide (y.2.1≠x.2.1))&&okStC n r
theorem mixC_done(h:Nat→Option Value){n k j:Nat}{v:Value}(u:Value)(hk:h k=none):∀(st:List (Nat×Nat×Value)) (L:List Value),okStC n st=true→(k,j,v)∈st→mixC (setH h k u) st L=(mixC h st L).set j v∧j<n
 |x::r,L,hok,hm=>by
  unfold okStC at hok
  simp only [Bool.and_eq_true,decide_eq_true_eq,List.all_eq_true] at hok
  obtain ⟨⟨h1,h2⟩,h3⟩:=hok
  unfold mixC
  rcases List.mem_cons.1 hm with e|hr
  ·subst e
   refine ⟨?_,h1⟩
   rw [setH_same,hk,mixC_other h k u r _ (fun y hy=>(h2 y hy).1)]
   exact mixC_set h j v r L (fun y hy=>(h2 y hy).2)
  ·rw [setH_ne (fun e=>(h2 _ hr).1 e.symm)]
   exact mixC_done h u hk r _ h3 hr
theorem mixC_all(h:Nat→Option Value):∀(st:List (Nat×Nat×Value)) (L:List Value),(∀x∈st,(h x.1).isSome=true)→mixC h st L=doneC st L
 | [],_,_=>rfl
 |x::r,L,hn=>by
  unfold mixC doneC
  rw [if_pos (hn x List.mem_cons_self),mixC_all h r _ (fun y hy=>hn y (List.mem_cons_of_mem _ hy))]
section
variable {P:Program} {ops:Array Oper} {Q:Exit→Act→World→Prop}
structure PutS(w:World)(b:Nat)(L:List Value)(W:World):Prop where
 fr:Fr (fun k=>k=b) w W
 cells:CellsAt W b 0 L
 open_:∀j,W.frozen? ⟨b,j,none⟩=false
theorem PutS.put{w W:World}{b:Nat}{L:List Value}(h:PutS w b L W){j:Nat}(hj:j<L.length)(v:Value):PutS w b (L.set j v) (W.setCell ⟨b,j,none⟩ v):=
 ⟨h.fr.setCell (p:=⟨b,j,none⟩) (.inr rfl) _,h.cells.set1 hj v,fun i=>by rw [World.frozen?_setCell];exact h.open_ i⟩
theorem wp_region_fields{id:Nat}{a:Act}{w:World}(base:List (Tmp×Value))(C:List (Option Value))(b:Nat)(L:List Value)(st:List (Nat×Nat×Value))(hm:P.follows .mixedOrders=true)
  (hok:okOpsM ops=true) (hok1:okDst ops a.tmps.size=true) (hok2:okBase ops (base.map (·.1))=true) (hbase:Vals a base)
  (hL:CellsAt w b 0 L) (hO:∀j,w.frozen? ⟨b,j,none⟩=false) (hst:okStC L.length st=true) (hin:(st.all fun x=>decide (x.1<ops.size)&&(C.getD x.1 none).isNone)=true)
  (hpure:∀(i:Nat) (o:Oper) (c:Value),ops[i]? =some o→C.getD i none=some c→∀h (a:Act) W,Fr (fun k=>k=b) w W→(∀k∈preOf ops i,Filled ops C h a k)→Vals a base→(execOp a.eval o).run P W= .ok (.value c) W)
  (hstore:∀(i:Nat) (o:Oper),ops[i]? =some o→C.getD i none=none→∃j v,(i,j,v)∈st∧∀h (a':Act) (W:World) (old:Value),W.cell? ⟨b,j,none⟩=some old→W.frozen? ⟨b,j,none⟩=false→(∀k∈preOf ops i,Filled ops C h a' k)→Vals a' base→(execOp a'.eval o).run P W= .ok .skip (W.setCell ⟨b,j,none⟩ v))
  (hfin:∀(V:Nat→Value) W,(∀k c,k<ops.size→C.getD k none=some c→V k=c)→PutS w b (doneC st L) W→Q .normal (putsM ops V (List.range ops.size) a) W):(Code.region id ops true).wp P Q a w:=by
 refine wp_region_made base C (fun h W=>PutS w b (mixC h st L) W) hm hok hok1 hok2 hbase ⟨(Fr.refl _ _).drew,by rw [mixC_none];exact hL,hO⟩ ?_ ?_ ?_
 ·intro i o c ho hc h a' W hS hpre hb
  exact hpure i o c ho hc h a' W hS.fr hpre hb
 ·intro i o ho hc h a' W _ hi hS hpre hb
  obtain ⟨j,v,hmem,hrun⟩:=hstore i o ho hc
  obtain ⟨e,hj⟩:=mixC_done h undef hi st L hst hmem
  have hj2:j<(mixC h st L).length:=by rw [mixC_len];exact hj
  have hold:=hS.cells j _ (List.getElem?_eq_getElem hj2)
  rw [Nat.zero_add] at hold
  have hr:=hrun h a' W _ hold (hS.open_ j) (fun k hk=>(hpre k hk).1) hb
  unfold Oper.wp
  rw [hr]
  exact ⟨undef,rfl,by rw [e];exact hS.put hj2 v⟩
 ·intro h V W hV hS
  refine hfin V W (fun k c hk hc=> ?_) ?_
  ·have:=hV k hk
   unfold slotV at this
   rw [hc] at this
   exact (Option.some.inj this).symm
  ·rw [mixC_all h st L (fun x hx=> ?_)] at hS
   ·exact hS
   ·have hx2:=List.all_eq_true.1 hin x hx
    simp only [Bool.and_eq_true,decide_eq_true_eq,Option.isNone_iff_eq_none] at hx2
    have:=hV x.1 hx2.1
    unfold slotV at this
    rw [hx2.2] at this
    rw [show h x.1=some (V x.1) from this]
    rfl
end
theorem wp_then_of{P:Program}{s:Code}{Q:Exit→Act→World→Prop}{a:Act}{w:World}(h:∀K:Act→World→Prop,K=(fun a w=>Q .normal a w)→s.wp P (Exit.then K Q) a w):s.wp P Q a w:=by
 refine wp_mono (h _ rfl) ?_
 intro e a' w' hq
 cases e<;>exact hq
section
variable {P:Program} {A:Act} {W:World}
theorem do_store1{x y:Operand}{v u:Value}{w':World}{t:TypeId}{d:Option Tmp}{ty:TypeId}{pos:String}{af:Array Edge}{g:Option (Nat×Bool)}(hx:A.eval x=v)(hy:A.eval y=u)(hr:(Instr.storeAt t v u).run P W= .ok () w'):(execOp A.eval ⟨d, .store t x y,ty,pos,af,g⟩).run P W= .ok .skip w':=by
 simp [execOp,hx,hy,hr,Result.andThen]
end
end Go.Proofs.YtjcgmhlbkheadaaGreatDoor
namespace Go.Proofs.YtjcgmhlbkheadaaGreatDoor
open Go.RowKit
section
variable {P:Program} {ops:Array Oper} {Q:Exit→Act→World→Prop}
def CalmS(ops:Array Oper)(C:List (Option Value))(M:Nat→Value→World→Prop)(a:Act)(W:World)(k:Nat):Prop:=
 ∃v,(∀c,C.getD k none=some c→v=c)∧(C.getD k none=none→M k v W)∧∀d,dstOf ops k=some d→a.tmps[d]? =some v
def CalmQ(C:List (Option Value))(M:Nat→Value→World→Prop)(i:Nat)(o:Oper)(a:Act)(W:World)(a2:Act)(w':World):Prop:=
 ∃v,a2=a.put o.dst v∧Fr No W w'∧(∀c,C.getD i none=some c→v=c)∧(C.getD i none=none→M i v w')
theorem wp_region_calm{id:Nat}{a:Act}{w:World}(base:List (Tmp×Value))(C:List (Option Value))(M:Nat→Value→World→Prop)(hM:∀k v W W',M k v W→Fr No W W'→M k v W')(hm:P.follows .mixedOrders=true)
  (hok:okOpsM ops=true) (hok1:okDst ops a.tmps.size=true) (hok2:okBase ops (base.map (·.1))=true) (hbase:Vals a base)
  (hop:∀(i:Nat) (o:Oper),ops[i]? =some o→∀(a':Act) W,a'.defers=a.defers→Fr No w W→(∀k∈preOf ops i,CalmS ops C M a' W k)→Vals a' base→Oper.wp P o a' W (CalmQ C M i o a' W) Q)
  (hfin:∀(V:Nat→Value) W,(∀k c,k<ops.size→C.getD k none=some c→V k=c)→Fr No w W→Q .normal (putsM ops V (List.range ops.size) a) W):(Code.region id ops true).wp P Q a w:=by
 refine wp_region_made base [] (fun h W=>Fr No w W∧∀k v,h k=some v→(∀c,C.getD k none=some c→v=c)∧(C.getD k none=none→M k v W)) hm hok hok1 hok2 hbase ⟨(Fr.refl _ _).drew,fun k v h=>by cases h⟩ ?_ ?_ ?_
 ·intro i o c ho hc
  simp at hc
 ·intro i o ho _ h a' W hd hi hS hpre hb
  refine Oper.wp_mono ?_ (hop i o ho a' W hd hS.1 (fun k hk=> ?_) hb)
  ·rintro a2 w' ⟨v,he,hf,h1,h2⟩
   refine ⟨v,he,hS.1.trans hf,fun k u hk=> ?_⟩
   by_cases e:k=i
   ·subst e
    rw [setH_same] at hk
    obtain rfl:=Option.some.inj hk
    exact ⟨h1,h2⟩
   ·rw [setH_ne e] at hk
    obtain ⟨g1,g2⟩:=hS.2 k u hk
    exact ⟨g1,fun hn=>hM _ _ _ _ (g2 hn) hf⟩
  ·obtain ⟨v,hv⟩:=(hpre k hk).2 (by simp)
   obtain ⟨g1,g2⟩:=hS.2 k v hv
   refine ⟨v,g1,g2,fun d hd=> ?_⟩
   obtain ⟨u,h1,h2⟩:=(hpre k hk).1 d hd
   have:slotV ([]:List (Option Value)) h k=h k:=by unfold slotV;simp
   rw [this,hv] at h1
   rw [h2,←Option.some.inj h1]
 ·intro h V W hV hS
  refine hfin V W (fun k c hk hc=> ?_) hS.1
  have hv:h k=some (V k):=by
   have:=hV k hk
   unfold slotV at this
   simpa using this
  exact (hS.2 k _ hv).1 c hc
variable {C:List (Option Value)} {M:Nat→Value→World→Prop} {a:Act} {W:World} {i:Nat}
theorem calm_made(hpre:∀k∈preOf ops i,CalmS ops C M a W k)(k d:Nat)(hk:(preOf ops i).contains k=true)(hd:dstOf ops k=some d)(hc:C.getD k none=none):∃v,M k v W∧a.eval (.tmp d)=v:=by
 obtain ⟨v,_,h2,h3⟩:=hpre k (by simpa using hk)
 exact ⟨v,h2 hc,evalT (h3 d hd)⟩
theorem calm_pure{o:Oper}{c:Value}(h:(execOp a.eval o).run P W= .ok (.value c) W)(hc:C.getD i none=some c):Oper.wp P o a W (CalmQ C M i o a W) Q:=by
 unfold Oper.wp
 rw [h]
 exact ⟨c,rfl,Fr.refl _ _,fun c' h'=>by rw [hc] at h';exact Option.some.inj h',fun hn=>by rw [hc] at hn;cases hn⟩
theorem calm_make{o:Oper}{v:Value}{W':World}(h:(execOp a.eval o).run P W= .ok (.value v) W')(hf:Fr No W W')(hc:C.getD i none=none)(hm:M i v W'):Oper.wp P o a W (CalmQ C M i o a W) Q:=by
 unfold Oper.wp
 rw [h]
 exact ⟨v,rfl,hf,fun c' h'=>(by rw [hc] at h';cases h'),fun _=>hm⟩
theorem calm_call{o:Oper}{f:FuncId}{args:Array Value}{c:Value}(h:(execOp a.eval o).run P W= .ok (.enter f args) W)(hc:C.getD i none=some c)(hcall:Calls P f args W fun e w'=>e= .returned c∧Fr No W w'):Oper.wp P o a W (CalmQ C M i o a W) Q:=by
 unfold Oper.wp
 rw [h]
 refine Calls.mono hcall ?_
 rintro e w' ⟨rfl,hf⟩
 exact ⟨c,rfl,hf,fun c' h'=>by rw [hc] at h';exact Option.some.inj h',fun hn=>by rw [hc] at hn;cases hn⟩
theorem evalF(f:FuncId):a.eval (.func f)= .func (.func f) #[] #[]:=rfl
theorem do_enter{f:FuncId}{args:Array Operand}{vs:Array Value}{t:Array TypeId}{d:Option Tmp}{ty:TypeId}{pos:String}{af:Array Edge}{g:Option (Nat×Bool)}(hv:args.map a.eval=vs)(hf:(callFunc f vs).run P W= .ok (.enter f vs) W):
  (execOp a.eval ⟨d, .call {callee:= .value (.func f),args:=args,argTypes:=t},ty,pos,af,g⟩).run P W= .ok (.enter f vs) W:=by
 subst hv
 simp only [execOp,resolve]
 simp [evalF,Deferred.ofValue,invoke,hf]
end
end Go.Proofs.YtjcgmhlbkheadaaGreatDoor
namespace Go.Proofs.YtjcgmhlbkheadaaGreatDoor
open Go.RowKit
theorem rone_any(L:List Int)(g off n c:Nat)(x:Int)(w:World)(hc:CellsAt w g off (L.map (Value.int .i64)))(hn:L.length=n)(hm:n≤1000000):
  Calls Tryz.prog 95 #[.int .i64 x, .slice (some ⟨g,off,none⟩) n c] w fun e w'=>e= .returned (.bool (oneM x L))∧Fr No w w':=by
 have HC:=Lib.hid hc
 have HN:=Lib.hid hn
 have HO:Hid (oneM x L=geJ (L.findIdx? (·==x))):=contains_idxJ L x
 rw [HO.out]
 clear hc hn HO
 go_enter Tryz.func95,Tryz.ntmps95
 go_wp2_with fail
 go_loopw [5] (fun i wr=>∃k:Nat,k≤n∧i= .int .i64 k∧Hid (Fr No w wr)∧Hid (∀(j:Nat) z,j<k→L[j]? =some z→z≠x)) (fun i _=>n-(intOf i).toNat)
 case atStart=>exact ⟨0,Nat.zero_le _,rfl,Fr.refl _ _,fun j _ h=>absurd h (Nat.not_lt_zero _)⟩
 case round=>
  obtain ⟨k,hk,rfl,HF,HJ⟩:=hrel
  by_cases hlt:k<n
  ·obtain ⟨z,hz⟩:∃z,L[k]? =some z:=⟨L[k]'(by rw [HN.out];exact hlt),List.getElem?_eq_getElem _⟩
   have k0:=i64J_cell (HF.out.cells HC.out id) hz
   have HX:=Lib.hid hz
   clear hz
   by_cases hx:z=x
   ·have HFI:Hid (L.findIdx? (·==x)=some k):=index_atJ L z x k HX.out HJ.out hx
    have q:(x==z)=true:=by rw [beq_iff_eq];exact hx.symm
    have q':(z==x)=true:=by rw [beq_iff_eq];exact hx
    clear hx
    go_wp2_with fail
    go_ret
    exact ⟨by rw [HFI.out];rfl,HF.out⟩
   ·have HJ2:Hid (∀(j:Nat) y,j<k+1→L[j]? =some y→y≠x):=fun j y hj hy=>by
     by_cases e:j=k
     ·subst e
      rw [HX.out] at hy
      obtain rfl:=Option.some.inj hy
      exact hx
     ·exact HJ.out j y (by omega) hy
    have q:(x==z)=false:=by rw [beq_eq_false_iff_ne];exact Ne.symm hx
    have q':(z==x)=false:=by rw [beq_eq_false_iff_ne];exact hx
    clear hx
    go_wp2_with fail
    go_roundw
    case rel=>exact ⟨k+1,by omega,by go_num,HF.out,HJ2⟩
    case measure=>simp [intOf]<;>omega
  ·obtain rfl:k=n:=by omega
   have HFI:Hid (L.findIdx? (·==x)=none):=Lib.hid (by
    rw [List.findIdx?_eq_none_iff]
    intro y hy
    obtain ⟨j,hj,rfl⟩:=List.getElem_of_mem hy
    have:=HJ.out j _ (by rw [←HN.out];exact hj) (List.getElem?_eq_getElem hj)
    simpa using this)
   go_wp2_with fail
   go_ret
   exact ⟨by rw [HFI.out];rfl,HF.out⟩
theorem ralu_any(n:Int)(w:World):Calls Tryz.prog 92 #[.int .i64 n] w fun e w'=>e= .returned (.bool (oneM n [0,1,4,5,6,7]))∧Fr No w w':=by
 have HB:Hid (∀W:World,Calls Tryz.prog 95 #[.int .i64 n, .slice (some ⟨W.heap.size,0,none⟩) 6 6] (W.alloc (.cells #[.int .i64 0, .int .i64 1, .int .i64 4, .int .i64 5, .int .i64 6, .int .i64 7] 3)) fun e w'=>e= .returned (.bool (oneM n [0,1,4,5,6,7]))∧Fr No (W.alloc (.cells #[.int .i64 0, .int .i64 1, .int .i64 4, .int .i64 5, .int .i64 6, .int .i64 7] 3)) w'):=fun W=>rone_any _ _ _ _ _ _ _ (CellsAt.new W [.int .i64 0, .int .i64 1, .int .i64 4, .int .i64 5, .int .i64 6, .int .i64 7] _) rfl (by decide)
 generalize oneM n [0,1,4,5,6,7]=r at*
 go_enter Tryz.func92,Tryz.ntmps92
 go_wp2_with (go_at_call 95;(with_reducible refine (HB.out _).mono ?_);rintro e w' ⟨rfl,hf⟩)
 go_ret
 exact ⟨rfl,(fr_alloc _ _).trans hf⟩
theorem rshift_any(n:Int)(w:World):Calls Tryz.prog 94 #[.int .i64 n] w fun e w'=>e= .returned (.bool (oneM n [4,5,7]))∧Fr No w w':=by
 have HB:Hid (∀W:World,Calls Tryz.prog 95 #[.int .i64 n, .slice (some ⟨W.heap.size,0,none⟩) 3 3] (W.alloc (.cells #[.int .i64 4, .int .i64 5, .int .i64 7] 3)) fun e w'=>e= .returned (.bool (oneM n [4,5,7]))∧Fr No (W.alloc (.cells #[.int .i64 4, .int .i64 5, .int .i64 7] 3)) w'):=fun W=>rone_any _ _ _ _ _ _ _ (CellsAt.new W [.int .i64 4, .int .i64 5, .int .i64 7] _) rfl (by decide)
 generalize oneM n [4,5,7]=r at*
 go_enter Tryz.func94,Tryz.ntmps94
 go_wp2_with (go_at_call 95;(with_reducible refine (HB.out _).mono ?_);rintro e w' ⟨rfl,hf⟩)
 go_ret
 exact ⟨rfl,(fr_alloc _ _).trans hf⟩
theorem rcond_any(n:Int)(w:World):Calls Tryz.prog 96 #[.int .i64 n] w fun e w'=>e= .returned (.bool (oneM n condsL))∧Fr No w w':=by
 have HB:Hid (∀W:World,Calls Tryz.prog 95 #[.int .i64 n, .slice (some ⟨W.heap.size,0,none⟩) 10 10] (W.alloc (.cells #[.int .i64 2, .int .i64 3, .int .i64 4, .int .i64 5, .int .i64 6, .int .i64 7, .int .i64 12, .int .i64 13, .int .i64 14, .int .i64 15] 3)) fun e w'=>e= .returned (.bool (oneM n condsL))∧Fr No (W.alloc (.cells #[.int .i64 2, .int .i64 3, .int .i64 4, .int .i64 5, .int .i64 6, .int .i64 7, .int .i64 12, .int .i64 13, .int .i64 14, .int .i64 15] 3)) w'):=fun W=>rone_any _ _ _ _ _ _ _ (CellsAt.new W condsC _) rfl (by decide)
 generalize oneM n condsL=r at*
 go_enter Tryz.func96,Tryz.ntmps96
 go_wp2_with (go_at_call 95;(with_reducible refine (HB.out _).mono ?_);rintro e w' ⟨rfl,hf⟩)
 go_ret
 exact ⟨rfl,(fr_alloc _ _).trans hf⟩
theorem rreg_any(n:Int)(w:World):Calls Tryz.prog 97 #[.int .i64 n] w fun e w'=>e= .returned (.bool (regB n))∧w=w':=by
 by_cases h1:(0:Int)≤n
 ·by_cases h2:n<16
  ·have HR:Hid (regB n=true):=by refine Lib.hid ?_;unfold regB;simp [h1,h2]
   rw [HR.out]
   go_enter Tryz.func97,Tryz.ntmps97
   go_wp2
   go_ret
   exact ⟨rfl,rfl⟩
  ·have HR:Hid (regB n=false):=by refine Lib.hid ?_;unfold regB;simp [h1,h2]
   rw [HR.out]
   go_enter Tryz.func97,Tryz.ntmps97
   go_wp2
   go_ret
   exact ⟨rfl,rfl⟩
 ·have HR:Hid (regB n=false):=by refine Lib.hid ?_;unfold regB;simp [h1]
  rw [HR.out]
  have h1':n<0:=by omega
  go_enter Tryz.func97,Tryz.ntmps97
  go_wp2
  go_ret
  exact ⟨rfl,rfl⟩
theorem rword_any(n:Int)(w:World):Calls Tryz.prog 93 #[.int .i64 n] w fun e w'=>e= .returned (.bool (wordB n))∧w=w':=by
 by_cases h1:(-2147483648:Int)≤n
 ·by_cases h2:n≤2147483647
  ·have HR:Hid (wordB n=true):=by refine Lib.hid ?_;unfold wordB;simp [h1,h2]
   rw [HR.out]
   go_enter Tryz.func93,Tryz.ntmps93
   go_wp2
   go_ret
   exact ⟨rfl,rfl⟩
  ·have HR:Hid (wordB n=false):=by refine Lib.hid ?_;unfold wordB;simp [h1,h2]
   rw [HR.out]
   go_enter Tryz.func93,Tryz.ntmps93
   go_wp2
   go_ret
   exact ⟨rfl,rfl⟩
 ·have HR:Hid (wordB n=false):=by refine Lib.hid ?_;unfold wordB;simp [h1]
  rw [HR.out]
  have h1':n< -2147483648:=by omega
  go_enter Tryz.func93,Tryz.ntmps93
  go_wp2
  go_ret
  exact ⟨rfl,rfl⟩
theorem byteM_toNat(n:Int):((byteM n).toNat:Int)=n%256:=by
 unfold byteM
 rw [u8_toNat _ (by omega)]
 omega
theorem str_one(n:Int)(W:World):(convert 52 9 (.slice (some ⟨W.heap.size,0,none⟩) 1 1)).run Tryz.prog (W.alloc (.cells #[.int .u8 (n%256)] 5))= .ok (.string (bA' [byteM n])) (W.alloc (.cells #[.int .u8 (n%256)] 5)):=by
 have h:=str_at (CellsAt.new W (u8s [byteM n]) 5) 1
 have e:(u8s [byteM n]).toArray= #[.int .u8 (n%256)]:=by simp [u8s,byteM_toNat]
 rw [e] at h
 exact h
theorem rb_any(L:List Int)(g off n c:Nat)(w:World)(hc:CellsAt w g off (L.map (Value.int .i64)))(hn:L.length=n)(hm:n≤1000):
  Calls Tryz.prog 54 #[.slice (some ⟨g,off,none⟩) n c] w fun e w'=>e= .returned (.string (bA' (L.map byteM)))∧Fr No w w':=by
 have HC:=Lib.hid hc
 have HN:=Lib.hid hn
 obtain ⟨M,hM⟩:∃M,L.map byteM=M:=⟨_,rfl⟩
 have HM:=Lib.hid hM
 rw [hM]
 clear hc hn hM
 go_enter Tryz.func54,Tryz.ntmps54
 go_wp2_with fail
 go_loopw [3,4] (fun s i wr=>∃k:Nat,k≤n∧s= .string (bA' (M.take k))∧i= .int .i64 k∧Hid (Fr No w wr)) (fun _ i _=>n-(intOf i).toNat)
 case atStart=>exact ⟨0,Nat.zero_le _,rfl,rfl,Fr.refl _ _⟩
 case round=>
  obtain ⟨k,hk,rfl,rfl,HF⟩:=hrel
  by_cases hlt:k<n
  ·obtain ⟨z,hz⟩:∃z,L[k]? =some z:=⟨L[k]'(by rw [HN.out];exact hlt),List.getElem?_eq_getElem _⟩
   have k0:=i64J_cell (HF.out.cells HC.out id) hz
   have hM1:M[k]? =some (byteM z):=by rw [←HM.out,List.getElem?_map,hz];rfl
   have e:M.take (k+1)=M.take k++ [byteM z]:=by
    rw [List.take_add_one,hM1];simp
   have a1:=addL (M.take k) [byteM z] (by simp;omega) (by simp)
   rw [←e] at a1
   have a2:=str_one z
   clear e hz hM1
   go_wp2_with fail
   go_roundw
   case rel=>exact ⟨k+1,by omega,rfl,by go_num,HF.out.trans (fr_alloc _ _)⟩
   case measure=>simp [intOf]<;>omega
  ·obtain rfl:k=n:=by omega
   have e:M.take k=M:=by rw [←HN.out,←HM.out,←List.length_map (f:=byteM),List.take_length]
   rw [e]
   clear e
   go_wp2_with fail
   go_ret
   exact ⟨rfl,HF.out⟩
theorem rb1(n:Int)(W:World):Calls Tryz.prog 54 #[.slice (some ⟨W.heap.size,0,none⟩) 1 1] (W.alloc (.cells #[.int .i64 n] 3)) fun e w'=>e= .returned (.string (bA' [byteM n]))∧Fr No W w':=
 (rb_any [n] _ 0 1 1 _ (CellsAt.new W [.int .i64 n] _) rfl (by decide)).mono fun _ _ h=>⟨h.1,(fr_alloc _ _).trans h.2⟩
theorem rb2(n m:Int)(W:World):Calls Tryz.prog 54 #[.slice (some ⟨W.heap.size,0,none⟩) 2 2] (W.alloc (.cells #[.int .i64 n, .int .i64 m] 3)) fun e w'=>e= .returned (.string (bA' [byteM n,byteM m]))∧Fr No W w':=
 (rb_any [n,m] _ 0 2 2 _ (CellsAt.new W [.int .i64 n, .int .i64 m] _) rfl (by decide)).mono fun _ _ h=>⟨h.1,(fr_alloc _ _).trans h.2⟩
theorem rb3(n m o:Int)(W:World):Calls Tryz.prog 54 #[.slice (some ⟨W.heap.size,0,none⟩) 3 3] (W.alloc (.cells #[.int .i64 n, .int .i64 m, .int .i64 o] 3)) fun e w'=>e= .returned (.string (bA' [byteM n,byteM m,byteM o]))∧Fr No W w':=
 (rb_any [n,m,o] _ 0 3 3 _ (CellsAt.new W [.int .i64 n, .int .i64 m, .int .i64 o] _) rfl (by decide)).mono fun _ _ h=>⟨h.1,(fr_alloc _ _).trans h.2⟩
def rexR(wide:Bool)(r m:Nat)(always:Bool):List UInt8:=
 if (0x40+r/8*4+m/8+(if wide then 8 else 0)=0x40∧always=false) then [] else [byteM ((0x40+r/8*4+m/8+(if wide then 8 else 0):Nat):Int)]
def pairR(r m:Nat):List UInt8:= [byteM ((0xc0+r%8*8+m%8:Nat):Int)]
def memR(r m:Nat)(disp:Int):List UInt8:= [byteM ((0x80+r%8*8+m%8:Nat):Int)]++(if m%8=4 then [0x24] else [])++bytesI disp 4
def relR(x:XI)(short long:List UInt8):List UInt8:=if x.short then short++bytesI x.rel 1 else long++bytesI x.rel 4
theorem rrex_any(wide:Bool)(r m:Nat)(always:Bool)(hr:r<16)(hm:m<16)(w:World):
  Calls Tryz.prog 53 #[.bool wide, .int .i64 r, .int .i64 m, .bool always] w fun e w'=>e= .returned (.string (bA' (rexR wide r m always)))∧Fr No w w':=by
 have HB:Hid (∀(n:Int) (W:World),Calls Tryz.prog 54 #[.slice (some ⟨W.heap.size,0,none⟩) 1 1] (W.alloc (.cells #[.int .i64 n] 3)) fun e w'=>e= .returned (.string (bA' [byteM n]))∧Fr No W w'):=fun n W=>rb1 n W
 obtain ⟨a,ha⟩:∃a,r/8=a:=⟨_,rfl⟩
 obtain ⟨b,hb⟩:∃b,m/8=b:=⟨_,rfl⟩
 have h1:(r:Int).tdiv 8=(a:Int):=by rw [Int.tdiv_eq_ediv_of_nonneg (by omega)];omega
 have h2:(m:Int).tdiv 8=(b:Int):=by rw [Int.tdiv_eq_ediv_of_nonneg (by omega)];omega
 have ha2:a≤1:=by omega
 have hb2:b≤1:=by omega
 unfold rexR
 rw [ha,hb]
 clear ha hb hr hm
 obtain rfl|rfl:a=0∨a=1:=by omega
 all_goals obtain rfl|rfl:b=0∨b=1:=by omega
 all_goals cases wide
 all_goals cases always
 all_goals simp only [Int.natCast_zero,Int.natCast_one] at h1 h2
 all_goals clear ha2 hb2
 all_goals (go_enter Tryz.func53,Tryz.ntmps53)
 all_goals go_wp2_with (first|(go_at_call 54;(with_reducible refine (HB.out 64 _).mono ?_);rintro e w' ⟨rfl,hf⟩)|(go_at_call 54;(with_reducible refine (HB.out 65 _).mono ?_);rintro e w' ⟨rfl,hf⟩)|(go_at_call 54;(with_reducible refine (HB.out 68 _).mono ?_);rintro e w' ⟨rfl,hf⟩)|(go_at_call 54;(with_reducible refine (HB.out 69 _).mono ?_);rintro e w' ⟨rfl,hf⟩)|(go_at_call 54;(with_reducible refine (HB.out 72 _).mono ?_);rintro e w' ⟨rfl,hf⟩)|(go_at_call 54;(with_reducible refine (HB.out 73 _).mono ?_);rintro e w' ⟨rfl,hf⟩)|(go_at_call 54;(with_reducible refine (HB.out 76 _).mono ?_);rintro e w' ⟨rfl,hf⟩)|(go_at_call 54;(with_reducible refine (HB.out 77 _).mono ?_);rintro e w' ⟨rfl,hf⟩))
 all_goals go_ret
 all_goals first|exact ⟨rfl,hf⟩|exact ⟨rfl,Fr.refl _ _⟩
theorem rpair_any(r m:Nat)(hr:r<16)(hm:m<16)(w:World):
  Calls Tryz.prog 55 #[.int .i64 r, .int .i64 m] w fun e w'=>e= .returned (.string (bA' (pairR r m)))∧Fr No w w':=by
 have HB:Hid (∀(n:Int) (W:World),Calls Tryz.prog 54 #[.slice (some ⟨W.heap.size,0,none⟩) 1 1] (W.alloc (.cells #[.int .i64 n] 3)) fun e w'=>e= .returned (.string (bA' [byteM n]))∧Fr No W w'):=fun n W=>rb1 n W
 unfold pairR
 obtain ⟨a,ha⟩:∃a,r%8=a:=⟨_,rfl⟩
 obtain ⟨b,hb⟩:∃b,m%8=b:=⟨_,rfl⟩
 have h1:(r:Int).tmod 8=(a:Int):=by rw [Int.tmod_eq_emod_of_nonneg (by omega)];omega
 have h2:(m:Int).tmod 8=(b:Int):=by rw [Int.tmod_eq_emod_of_nonneg (by omega)];omega
 have ha2:a<8:=by omega
 have hb2:b<8:=by omega
 have q1:RowKit.wrap64 ((a:Int)*8)=(a:Int)*8:=IntWalk.wrap64_in _ (by omega)
 have q2:RowKit.wrap64 (192+(a:Int)*8)=192+(a:Int)*8:=IntWalk.wrap64_in _ (by omega)
 have q3:RowKit.wrap64 (192+(a:Int)*8+(b:Int))=192+(a:Int)*8+b:=IntWalk.wrap64_in _ (by omega)
 have e:Hid (192+(a:Int)*8+b=((192+a*8+b:Nat):Int)):=by refine Lib.hid ?_;omega
 rw [ha,hb,←e.out]
 clear ha hb hr hm e
 go_enter Tryz.func55,Tryz.ntmps55
 go_wp2_with (go_at_call 54;(with_reducible refine (HB.out _ _).mono ?_);rintro e w' ⟨rfl,hf⟩)
 go_ret
 exact ⟨rfl,hf⟩
theorem refbytes_I(v:Int)(n:Nat)(hn:n≤8)(w:World):Calls Tryz.prog 56 #[.int .u64 (IntKind.u64.wrap v), .int .i64 n] w fun e w'=>e= .returned (.string (bA' (bytesI v n)))∧Fr No w w':=by
 have e:IntKind.u64.wrap v=(((v%18446744073709551616).toNat:Nat):Int):=by rw [IntKind.wrap_u64];omega
 unfold bytesI
 rw [e]
 exact (refbytes_any _ n w (by omega) hn).mono fun e w' h=>⟨h.1,Fr.of_below h.2⟩
theorem rmemory_any(r m:Nat)(disp:Int)(hr:r<16)(hm:m<16)(w:World):
  Calls Tryz.prog 57 #[.int .i64 r, .int .i64 m, .int .i32 disp] w fun e w'=>e= .returned (.string (bA' (memR r m disp)))∧Fr No w w':=by
 have HB:Hid (∀(n:Int) (W:World),Calls Tryz.prog 54 #[.slice (some ⟨W.heap.size,0,none⟩) 1 1] (W.alloc (.cells #[.int .i64 n] 3)) fun e w'=>e= .returned (.string (bA' [byteM n]))∧Fr No W w'):=fun n W=>rb1 n W
 have HY:Hid (∀(W:World),Calls Tryz.prog 56 #[.int .u64 (IntKind.u64.wrap disp), .int .i64 4] W fun e w'=>e= .returned (.string (bA' (bytesI disp 4)))∧Fr No W w'):=fun W=>refbytes_I disp 4 (by decide) W
 have hlen:(bytesI disp 4).length=4:=by unfold bytesI;rw [leBytes_length]
 unfold memR
 generalize bytesI disp 4=D at*
 obtain ⟨a,ha⟩:∃a,r%8=a:=⟨_,rfl⟩
 obtain ⟨b,hb⟩:∃b,m%8=b:=⟨_,rfl⟩
 have h1:(r:Int).tmod 8=(a:Int):=by rw [Int.tmod_eq_emod_of_nonneg (by omega)];omega
 have h2:(m:Int).tmod 8=(b:Int):=by rw [Int.tmod_eq_emod_of_nonneg (by omega)];omega
 have ha2:a<8:=by omega
 have hb2:b<8:=by omega
 have q1:RowKit.wrap64 ((a:Int)*8)=(a:Int)*8:=IntWalk.wrap64_in _ (by omega)
 have q2:RowKit.wrap64 (128+(a:Int)*8)=128+(a:Int)*8:=IntWalk.wrap64_in _ (by omega)
 have q3:RowKit.wrap64 (128+(a:Int)*8+(b:Int))=128+(a:Int)*8+b:=IntWalk.wrap64_in _ (by omega)
 have e:Hid (128+(a:Int)*8+b=((128+a*8+b:Nat):Int)):=by refine Lib.hid ?_;omega
 rw [ha,hb,←e.out]
 clear ha hb hr hm e
 obtain ⟨B,hB⟩:∃B,byteM (128+(a:Int)*8+b)=B:=⟨_,rfl⟩
 have s1:=addL [B] [byteM 36] (by simp) (by simp)
 have s2:=addL [B] D (by simp) (by omega)
 have s3:=addL ([B]++ [byteM 36]) D (by simp) (by omega)
 by_cases h4:b=4
 ·subst h4
  have HR:Hid ([byteM (128+(a:Int)*8+((4:Nat):Int))]++(if 4=4 then ([0x24]:List UInt8) else [])++D= [B]++ [byteM 36]++D):=by refine Lib.hid ?_;rw [hB];rfl
  rw [HR.out]
  rw [show (((4:Nat):Int))=4 from rfl] at*
  have HB1:Hid (∀(W:World),Calls Tryz.prog 54 #[.slice (some ⟨W.heap.size,0,none⟩) 1 1] (W.alloc (.cells #[.int .i64 (128+(a:Int)*8+4)] 3)) fun e w'=>e= .returned (.string (bA' [B]))∧Fr No W w'):=fun W=>hB ▸ HB.out _ W
  obtain ⟨T,hT⟩:∃T, [B]++ [byteM 36]=T:=⟨_,rfl⟩
  rw [hT] at s1 s3 ⊢
  clear hB hlen hT HR
  go_enter Tryz.func57,Tryz.ntmps57
  go_wp2_with (first
   |(go_at_call 54;(with_reducible refine (HB1.out _).mono ?_);rintro e w1 ⟨rfl,hf1⟩)
   |(go_at_call 54;(with_reducible refine (HB.out 36 _).mono ?_);rintro e w2 ⟨rfl,hf2⟩)
   |(go_at_call 56;(with_reducible refine (HY.out _).mono ?_);rintro e w3 ⟨rfl,hf3⟩))
  go_ret
  exact ⟨rfl,(hf1.trans hf2).trans hf3⟩
 ·have HR:Hid ([byteM (128+(a:Int)*8+(b:Int))]++(if b=4 then ([0x24]:List UInt8) else [])++D= [B]++D):=by refine Lib.hid ?_;rw [hB,if_neg h4];rfl
  rw [HR.out]
  have HB1:Hid (∀(W:World),Calls Tryz.prog 54 #[.slice (some ⟨W.heap.size,0,none⟩) 1 1] (W.alloc (.cells #[.int .i64 (128+(a:Int)*8+b)] 3)) fun e w'=>e= .returned (.string (bA' [B]))∧Fr No W w'):=fun W=>hB ▸ HB.out _ W
  have h4':((b:Int)==4)=false:=by rw [beq_eq_false_iff_ne];omega
  obtain ⟨T,hT⟩:∃T, [B]++D=T:=⟨_,rfl⟩
  rw [hT] at s2 ⊢
  clear hB hlen hT HR h4 s1 s3
  go_enter Tryz.func57,Tryz.ntmps57
  go_wp2_with (first
   |(go_at_call 54;(with_reducible refine (HB1.out _).mono ?_);rintro e w1 ⟨rfl,hf1⟩)
   |(go_at_call 56;(with_reducible refine (HY.out _).mono ?_);rintro e w3 ⟨rfl,hf3⟩))
  go_ret
  exact ⟨rfl,hf1.trans hf3⟩
theorem rrel_any(x:XI)(S L:List UInt8)(hS:S.length≤10)(hL:L.length≤10)(w:World):
  Calls Tryz.prog 58 #[x.agg, .string (bA' S), .string (bA' L)] w fun e w'=>e= .returned (.string (bA' (relR x S L)))∧Fr No w w':=by
 obtain ⟨k,a,c,z,wd,sh,d,r,dp,rl,im⟩:=x
 have HY1:Hid (∀(W:World),Calls Tryz.prog 56 #[.int .u64 (IntKind.u64.wrap rl), .int .i64 1] W fun e w'=>e= .returned (.string (bA' (bytesI rl 1)))∧Fr No W w'):=fun W=>refbytes_I rl 1 (by decide) W
 have HY4:Hid (∀(W:World),Calls Tryz.prog 56 #[.int .u64 (IntKind.u64.wrap rl), .int .i64 4] W fun e w'=>e= .returned (.string (bA' (bytesI rl 4)))∧Fr No W w'):=fun W=>refbytes_I rl 4 (by decide) W
 have h1:(bytesI rl 1).length=1:=by unfold bytesI;rw [leBytes_length]
 have h4:(bytesI rl 4).length=4:=by unfold bytesI;rw [leBytes_length]
 have s1:=addL S (bytesI rl 1) (by omega) (by omega)
 have s4:=addL L (bytesI rl 4) (by omega) (by omega)
 unfold relR
 simp only [XI.agg]
 generalize S++bytesI rl 1=A at*
 generalize L++bytesI rl 4=B at*
 generalize bytesI rl 1=C at*
 generalize bytesI rl 4=D at*
 clear h1 h4
 cases sh
 ·go_enter Tryz.func58,Tryz.ntmps58
  go_wp2_with (go_at_call 56;(with_reducible refine (HY4.out _).mono ?_);rintro e w3 ⟨rfl,hf3⟩)
  go_ret
  exact ⟨rfl,(fr_alloc _ _).trans hf3⟩
 ·go_enter Tryz.func58,Tryz.ntmps58
  go_wp2_with (go_at_call 56;(with_reducible refine (HY1.out _).mono ?_);rintro e w3 ⟨rfl,hf3⟩)
  go_ret
  exact ⟨rfl,(fr_alloc _ _).trans hf3⟩
end Go.Proofs.YtjcgmhlbkheadaaGreatDoor
