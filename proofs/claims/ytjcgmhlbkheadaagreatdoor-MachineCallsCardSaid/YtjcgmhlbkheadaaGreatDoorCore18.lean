/- package machine, plain: what a machine instruction does, and a run, in a world's bytes, maps and draws. package machine, plain: what of a world stays in a run; how long it is; regions that may not be .. -/
import Derived.Test.YtjcgmhlbkheadaaGreatDoorCore1
import Derived.Test.YtjcgmhlbkheadaaGreatDoorCore3
import Derived.Test.YtjcgmhlbkheadaaGreatDoorCore17
import Derived.Test.YtjcgmhlbkheadaaGreatDoorCore14
import Derived.Test.YtjcgmhlbkheadaaGreatDoorCore10
import Derived.Test.YtjcgmhlbkheadaaGreatDoorCore15
import Derived.Maps.OwnSet
import Derived.Maps.StringElems
import Derived.LaidMore
set_option linter.all false
set_option linter.unusedVariables false
set_option linter.unusedSimpArgs false
set_option maxRecDepth 100000
set_option maxHeartbeats 1000000
namespace Go.Proofs.YtjcgmhlbkheadaaGreatDoor
open Go.RowKit
structure HW where
 D:List Int
 S:List Tab
 m:List Reg
def callM(ds:List MapD)(W:HW)(id a0 a1 a2 a3:Int):(Int×Int)×HW:=
 if argHas id=false then ((0,45),W)
 else if id=7 then ((drawN W.D,0),{W with D:=W.D.tail})
 else
  let i:=((a0-9437184)%18446744073709551616).toNat
  match ds[i]? with
  |none=>((0,2),W)
  |some x=>
   let kk:=mtext W.m a1 x.key
   if kk.2≠0 then ((0,kk.2),W)
   else if id=1 then ((mlookup W.S i kk.1,0),W)
   else if id=3 then (((mdelete W.S i kk.1).2%18446744073709551616,0),{W with S:=(mdelete W.S i kk.1).1})
   else
    let vv:=mtext W.m a2 x.value
    if vv.2≠0 then ((0,vv.2),W)
    else if a3≠0 then ((18446744073709551594,0),W)
    else (((mupdate W.S W.m i kk.1 vv.1).2%18446744073709551616,0),{W with S:=(mupdate W.S W.m i kk.1 vv.1).1.1,m:=(mupdate W.S W.m i kk.1 vv.1).1.2})
def farM(f:Nat)(d:Int):Nat:=(((f:Int)+d)%18446744073709551616).toNat
theorem farM_lt(f:Nat)(d:Int):farM f d<18446744073709551616:=by unfold farM;omega
def touchM(x:XI)(s:ST):Nat×Int:=
 if validM x=false then (0,0)
 else if x.kind=13 then (farM (s.reg x.src.toNat) x.disp,x.size)
 else if x.kind=14 then (farM (s.reg x.dst.toNat) x.disp,x.size)
 else if x.kind=17 then (farM (s.reg 4) (-8),8)
 else if x.kind=18∨x.kind=19 then (s.reg 4,8)
 else (0,0)
def idM(to_:Nat):Int:=signI (((to_:Int)-8388608)%18446744073709551616).toNat 64
def lostM(t:ST)(v:Nat):ST:=((((((((t.set 1 0).set 2 0).set 6 0).set 7 0).set 8 0).set 9 0).set 10 0).set 11 0).set 0 v
def exE{α:Type}(e:Int)(v:α):Except Int α:=if e=0 then .ok v else .error e
def stepM(ds:List MapD)(W:HW)(x:XI)(next:Nat)(s:ST):Except Int ST×HW:=
 if validM x=false then (.error 2,W)
 else
  let t:ST:={s with pc:=next}
  let a:=touchM x s
  if x.kind=13 then (exE (mread W.m a.1 a.2).2 (t.set x.dst.toNat (mread W.m a.1 a.2).1),W)
  else if x.kind=14 then (exE (mwrite W.m a.1 a.2 (s.reg x.src.toNat)).2 t,{W with m:=(mwrite W.m a.1 a.2 (s.reg x.src.toNat)).1})
  else if x.kind=17 then (exE (mwrite W.m a.1 8 (s.reg x.dst.toNat)).2 (t.set 4 a.1),{W with m:=(mwrite W.m a.1 8 (s.reg x.dst.toNat)).1})
  else if x.kind=18 then (exE (mread W.m a.1 8).2 ((t.set 4 (farM (s.reg 4) 8)).set x.dst.toNat (mread W.m a.1 8).1),W)
  else if x.kind=19 then (exE (mread W.m a.1 8).2 {(t.set 4 (farM (s.reg 4) 8)) with pc:=(mread W.m a.1 8).1},W)
  else if x.kind=15 then (.ok {t with pc:=farM next x.rel},W)
  else if x.kind=16 then (.ok (if takenM x.cond s then {t with pc:=farM next x.rel} else t),W)
  else if x.kind=20 then
   if argHas (idM (farM next x.rel))=false then (.error 110,W)
   else
    let q:=callM ds W (idM (farM next x.rel)) (s.reg 7) (s.reg 6) (s.reg 2) (s.reg 1)
    (exE q.1.2 (lostM t q.1.1.toNat),q.2)
  else (execM x t,W)
def fetchM(code:List UInt8)(pc:Nat):Option (XI×Nat):=
 let off:=((pc:Int)-4194304)%18446744073709551616
 if (code.length:Int)≤off then none
 else match decodeM (code.drop off.toNat) with
  |none=>none
  |some q=>some (q.1,(pc+q.2)%18446744073709551616)
def beginM(W:HW):Except Int ST×HW:=
 (exE (mwrite W.m 262264 8 10485760).2 {ST.zero with r:=ST.zero.r.set 4 262264,pc:=4194304},{W with m:=(mwrite W.m 262264 8 10485760).1})
def runL(ds:List MapD)(code:List UInt8):Nat→Nat→HW→ST→Except Int (Nat×ST)×HW
 |0,k,W,s=>(if s.pc=10485760 then .ok (k,s) else .error 100,W)
 |n+1,k,W,s=>
  if s.pc=10485760 then (.ok (k,s),W)
  else match fetchM code s.pc with
   |none=>(.error 110,W)
   |some q=>match stepM ds W q.1 q.2 s with
    |(.error e,W')=>(.error e,W')
    |(.ok t,W')=>runL ds code n (k+1) W' t
def runM(ds:List MapD)(code:List UInt8)(most:Int)(W:HW):Except Int (Nat×ST)×HW:=
 match beginM W with
 |(.error e,W')=>(.error e,W')
 |(.ok s,W')=>runL ds code most.toNat 0 W' s
def alusL:List Int:= [0,1,4,5,6,7]
def shiftsL:List Int:= [4,5,7]
def sx(v:Int)(b:Nat):Int:=signI (v%18446744073709551616).toNat b
def setM(x:XI):XI:=
 let y:XI:={XI.zero with kind:=x.kind,wide:=x.wide,dst:=x.dst%16}
 if x.kind=1∨x.kind=6∨x.kind=10 then {y with src:=x.src%16}
 else if x.kind=4 then {y with src:=x.src%16,alu:=alusL.getD (x.alu%6).toNat 0}
 else if x.kind=5 then {y with alu:=alusL.getD (x.alu%6).toNat 0,imm:=sx x.imm 32}
 else if x.kind=2 then {y with wide:=true,imm:=sx x.imm 32}
 else if x.kind=3 then {y with wide:=true,imm:=x.imm}
 else if x.kind=7∨x.kind=8∨x.kind=9 then y
 else if x.kind=11 then {y with alu:=shiftsL.getD (x.alu%3).toNat 0,imm:=if x.wide then x.imm%64 else x.imm%32}
 else if x.kind=12 then {y with alu:=shiftsL.getD (x.alu%3).toNat 0}
 else if x.kind=21 then {XI.zero with kind:=21}
 else x
def putM(x:XI):XI:=
 let y:XI:={XI.zero with kind:=x.kind}
 if x.kind=13∨x.kind=14 then {y with size:=2^(x.size%4).toNat,dst:=x.dst%16,src:=x.src%16,disp:=x.disp,wide:=decide (x.size%4=3)}
 else if x.kind=15 then {y with short:=x.short,rel:=if x.short then sx x.rel 8 else x.rel}
 else if x.kind=16 then {y with short:=x.short,rel:=if x.short then sx x.rel 8 else x.rel,cond:=condsL.getD (x.cond%10).toNat 0}
 else if x.kind=20 then {y with rel:=x.rel}
 else if x.kind=17∨x.kind=18 then {y with dst:=x.dst%16}
 else if x.kind=19 then y
 else setM x
def codeM(l:List XI):List UInt8:=l.flatMap fun x=>(encodeM (putM x)).getD []
def startW(D:List Int):HW:=⟨D, [],memL 0 0 [] [] []⟩
def comesM(r0 steps:Nat)(e:Int)(l:List XI):Bool:=
 match (runM [] (codeM l) 20 (startW [5])).1 with
 | .ok (k,s)=>decide (s.reg 0=r0)&&(decide (k=steps)&&decide (e=0))
 | .error g=>decide (r0=0)&&(decide (steps=0)&&decide (e=g))
def xRet:XI:={XI.zero with kind:=19}
theorem runs_true:comesM 7 2 0 [{XI.zero with kind:=2,wide:=true,imm:=7},xRet]=true∧comesM 0 3 0 [{XI.zero with kind:=17,dst:=3},{XI.zero with kind:=18},xRet]=true
  ∧comesM 0 0 110 [{XI.zero with kind:=17},xRet]=true∧comesM 0 0 70 [{XI.zero with kind:=13,size:=3,src:=3},xRet]=true
  ∧comesM 0 0 100 [{XI.zero with kind:=15,short:=true,rel:= -2}]=true∧comesM 0 0 110 []=true∧comesM 5 2 0 [{XI.zero with kind:=20,rel:=4194306},xRet]=true:=by decide+kernel
structure KeptM(m m':List Reg):Prop where
 shape:mshape m'=mshape m
 ro:∀(i:Nat) (r:Reg),m[i]? =some r→r.free=false→m'[i]? =some r
theorem KeptM.refl(m:List Reg):KeptM m m:=⟨rfl,fun _ _ h _=>h⟩
theorem KeptM.trans{a b c:List Reg}(h:KeptM a b)(g:KeptM b c):KeptM a c:=⟨g.shape.trans h.shape,fun i r hi hf=>g.ro i r (h.ro i r hi hf) hf⟩
end Go.Proofs.YtjcgmhlbkheadaaGreatDoor
namespace Go.Proofs.YtjcgmhlbkheadaaGreatDoor
open Go.RowKit
open Go.Maps (Keyed int_keyed)
def loadsD:DataW Unit:= .map [(.int .i64 1, .lit (.string [15,182])),(.int .i64 2, .lit (.string [15,183])),(.int .i64 4, .lit (.string [139])),(.int .i64 8, .lit (.string [139]))]
def storesD:DataW Unit:= .map [(.int .i64 1, .lit (.string [136])),(.int .i64 2, .lit (.string [137])),(.int .i64 4, .lit (.string [137])),(.int .i64 8, .lit (.string [137]))]
def doesD:DataW Unit:= .map [(.int .i64 0, .lit (.int .u8 0)),(.int .i64 1, .lit (.int .u8 64)),(.int .i64 4, .lit (.int .u8 80)),(.int .i64 5, .lit (.int .u8 16)),(.int .i64 6, .lit (.int .u8 160)),(.int .i64 7, .lit (.int .u8 16))]
def shiftsD:DataW Unit:= .map [(.int .i64 4, .lit (.int .u8 96)),(.int .i64 5, .lit (.int .u8 112)),(.int .i64 7, .lit (.int .u8 192))]
noncomputable def fnR(v:Value):Option (DataW (List UInt8)×List MemPlace):=
 match v with
 | .nilFunc=>some (.nil, [])
 | .func c a b=>some (.held (funcToken Tryz.prog (94, .func c a b)), [])
 |_=>none
def touchesN(i:UInt8):List UInt8:= [102,105,114,101,119,97,108,108,47,109,97,99,104,105,110,101,46,116,111,117,99,104,101,115,36,i]
def touchesD:DataW (List UInt8):= .map [(.int .i64 13, .held (touchesN 49)),(.int .i64 14, .held (touchesN 50)),(.int .i64 17, .held (touchesN 51)),(.int .i64 18, .held (touchesN 52)),(.int .i64 19, .held (touchesN 53))]
def FI.cells(f:FI):List Value:= [.string (bA' f.op), .int .i64 f.behind, .int .i64 f.digit, .int .i64 f.alu, .int .i64 f.imm, .bool f.wide, .bool f.narrow]
def formsC:List Value:=formsL.flatMap FI.cells
def condsC:List Value:=condsL.map (Value.int .i64)
def lostC:List Value:= [.int .i64 1, .int .i64 2, .int .i64 6, .int .i64 7, .int .i64 8, .int .i64 9, .int .i64 10, .int .i64 11]
def VarMap{H:Type}(w:World)(g:Nat)(k:TypeId)(R:Value→Option (DataW H×List MemPlace))(D:DataW H):Prop:=∃bm n,w.cell? ⟨g,0,none⟩=some (.map (some bm))∧w.ownsMap Tryz.prog k R bm n D
theorem VarMap.fr{H:Type}{w w':World}{g:Nat}{k:TypeId}{R:Value→Option (DataW H×List MemPlace)}{D:DataW H}(h:VarMap w g k R D)(hf:Fr No w w'):VarMap w' g k R D:=by
 obtain ⟨bm,n,hc,es,clock,hb,hF,hn,hD⟩:=h
 refine ⟨bm,n,hf.cell hc id,es,clock,?_,hF,hn,hD⟩
 have hlt:bm<w.heap.size:=(Array.getElem?_eq_some_iff.1 hb).1
 rw [hf.block bm hlt id]
 exact hb
structure MachAt(w:World):Prop where
 forms:CellsAt w 1 0 formsC
 loads:VarMap w 2 3 (plainElem Tryz.prog 9) loadsD
 stores:VarMap w 10 3 (plainElem Tryz.prog 9) storesD
 conds:∃g off cap,w.cell? ⟨3,0,none⟩=some (.slice (some ⟨g,off,none⟩) 10 cap)∧CellsAt w g off condsC
 does:VarMap w 7 3 (plainElem Tryz.prog 5) doesD
 shifts:VarMap w 5 3 (plainElem Tryz.prog 5) shiftsD
 args:ArgsAt w
 touches:VarMap w 0 3 fnR touchesD
 lost:CellsAt w 4 0 lostC
theorem MachAt.fr{w w':World}(h:MachAt w)(hf:Fr No w w'):MachAt w':=by
 obtain ⟨g,off,cap,hc,hcs⟩:=h.conds
 exact ⟨hf.cells h.forms id,h.loads.fr hf,h.stores.fr hf,⟨g,off,cap,hf.cell hc id,hf.cells hcs id⟩,h.does.fr hf,h.shifts.fr hf,h.args.fr hf,h.touches.fr hf,hf.cells h.lost id⟩
theorem at_strs:∀(L:List (Int×List UInt8)) (n:Int),(DataW.map (L.map fun x=>(Lit.int .i64 x.1,DataW.lit (.string x.2))):DataW Unit).atKey (.int .i64 n) (.lit (.string []))= .lit (.string (((L.find? fun x=>x.1==n).map (·.2)).getD []))
 | [],n=>rfl
 |x::L,n=>by
  have ih:=at_strs L n
  unfold DataW.atKey at ih ⊢
  simp only [List.map_cons,List.find?_cons] at ih ⊢
  have e:(Lit.int .i64 x.1).sameKey (.int .i64 n)=(x.1==n):=by rw [Bool.eq_iff_iff];simp [Lit.sameKey]
  rw [e]
  cases hx:(x.1==n)
  ·simpa [hx] using ih
  ·simp
theorem at_u8s:∀(L:List (Int×Int)) (n:Int),(DataW.map (L.map fun x=>(Lit.int .i64 x.1,DataW.lit (.int .u8 x.2))):DataW Unit).atKey (.int .i64 n) (.lit (.int .u8 0))= .lit (.int .u8 (((L.find? fun x=>x.1==n).map (·.2)).getD 0))
 | [],n=>rfl
 |x::L,n=>by
  have ih:=at_u8s L n
  unfold DataW.atKey at ih ⊢
  simp only [List.map_cons,List.find?_cons] at ih ⊢
  have e:(Lit.int .i64 x.1).sameKey (.int .i64 n)=(x.1==n):=by rw [Bool.eq_iff_iff];simp [Lit.sameKey]
  rw [e]
  cases hx:(x.1==n)
  ·simpa [hx] using ih
  ·simp
theorem loads_at(n:Int):loadsD.atKey (.int .i64 n) (.lit (.string []))= .lit (.string (loadsM n)):=by
 have h:=at_strs [(1, [15,182]),(2, [15,183]),(4, [139]),(8, [139])] n
 refine h.trans (congrArg (fun l=>DataW.lit (.string l)) ?_)
 unfold loadsM
 by_cases h1:n=1
 ·subst h1;rfl
 by_cases h2:n=2
 ·subst h2;rfl
 by_cases h4:n=4
 ·subst h4;rfl
 by_cases h8:n=8
 ·subst h8;rfl
 simp [h1,h2,h4,h8,Ne.symm h1,Ne.symm h2,Ne.symm h4,Ne.symm h8,List.find?_cons,show ((1:Int)==n)=false by simp;omega,show ((2:Int)==n)=false by simp;omega,show ((4:Int)==n)=false by simp;omega,show ((8:Int)==n)=false by simp;omega]
theorem stores_at(n:Int):storesD.atKey (.int .i64 n) (.lit (.string []))= .lit (.string (storesM n)):=by
 have h:=at_strs [(1, [136]),(2, [137]),(4, [137]),(8, [137])] n
 refine h.trans (congrArg (fun l=>DataW.lit (.string l)) ?_)
 unfold storesM
 by_cases h1:n=1
 ·subst h1;rfl
 by_cases h2:n=2
 ·subst h2;rfl
 by_cases h4:n=4
 ·subst h4;rfl
 by_cases h8:n=8
 ·subst h8;rfl
 simp [h1,h2,h4,h8,List.find?_cons,show ((1:Int)==n)=false by simp;omega,show ((2:Int)==n)=false by simp;omega,show ((4:Int)==n)=false by simp;omega,show ((8:Int)==n)=false by simp;omega]
theorem does_at(n:Int):doesD.atKey (.int .i64 n) (.lit (.int .u8 0))= .lit (.int .u8 (doesM n)):=by
 have h:=at_u8s [(0,0),(1,64),(4,80),(5,16),(6,160),(7,16)] n
 refine h.trans (congrArg (fun l=>DataW.lit (.int .u8 l)) ?_)
 unfold doesM
 by_cases h0:n=0
 ·subst h0;rfl
 by_cases h1:n=1
 ·subst h1;rfl
 by_cases h4:n=4
 ·subst h4;rfl
 by_cases h5:n=5
 ·subst h5;rfl
 by_cases h6:n=6
 ·subst h6;rfl
 by_cases h7:n=7
 ·subst h7;rfl
 simp [h0,h1,h4,h5,h6,h7,List.find?_cons,show ((0:Int)==n)=false by simp;omega,show ((1:Int)==n)=false by simp;omega,show ((4:Int)==n)=false by simp;omega,show ((5:Int)==n)=false by simp;omega,show ((6:Int)==n)=false by simp;omega,show ((7:Int)==n)=false by simp;omega]
theorem shifts_at(n:Int):shiftsD.atKey (.int .i64 n) (.lit (.int .u8 0))= .lit (.int .u8 (shiftsM n)):=by
 have h:=at_u8s [(4,96),(5,112),(7,192)] n
 refine h.trans (congrArg (fun l=>DataW.lit (.int .u8 l)) ?_)
 unfold shiftsM
 by_cases h4:n=4
 ·subst h4;rfl
 by_cases h5:n=5
 ·subst h5;rfl
 by_cases h7:n=7
 ·subst h7;rfl
 simp [h4,h5,h7,List.find?_cons,show ((4:Int)==n)=false by simp;omega,show ((5:Int)==n)=false by simp;omega,show ((7:Int)==n)=false by simp;omega]
theorem str_look{w:World}{bm n:Nat}{D:DataW Unit}(h:w.ownsMap Tryz.prog 3 (plainElem Tryz.prog 9) bm n D){k:Int}(hw:(Lit.int .i64 k).wf=true){L:List UInt8}(hD:D.atKey (.int .i64 k) (.lit (.string []))= .lit (.string L)):
  (Instr.lookup 150 (.map (some bm)) (.int .i64 k) false).run Tryz.prog w= .ok (.string (bA' L)) w:=by
 obtain ⟨v,ps,hrun,hv⟩:=h.lookup (int_keyed Tryz.underlying3) Tryz.underlying150 (z:= .string ⟨#[]⟩) (by kernel_rfl) (plainElem_string Tryz.underlying9 (by decide)) (Go.Maps.keyOf_int_mk Tryz.underlying3 hw)
 obtain ⟨a,rfl,ha,_⟩:=plainElem_string_inv Tryz.underlying9 hv
 have h1:D.atKey (.int .i64 k) (.lit (.string []))= .lit (.string a.data.toList):=congrArg Prod.fst ha
 rw [hD] at h1
 simp only [DataW.lit.injEq,Lit.string.injEq] at h1
 rw [hrun,h1]
 rfl
theorem u8_look{w:World}{bm n:Nat}{D:DataW Unit}(h:w.ownsMap Tryz.prog 3 (plainElem Tryz.prog 5) bm n D){k:Int}(hw:(Lit.int .i64 k).wf=true){a:Int}(hD:D.atKey (.int .i64 k) (.lit (.int .u8 0))= .lit (.int .u8 a)):
  (Instr.lookup 165 (.map (some bm)) (.int .i64 k) false).run Tryz.prog w= .ok (.int .u8 a) w:=by
 obtain ⟨c,hrun,hat,_⟩:=h.lookup_int (int_keyed Tryz.underlying3) Tryz.underlying165 Tryz.underlying5 (by kernel_rfl) (Go.Maps.keyOf_int_mk Tryz.underlying3 hw)
 rw [hD] at hat
 simp only [DataW.lit.injEq,Lit.int.injEq,true_and] at hat
 rw [hrun,hat]
def touchF(k:Int):Value:=if k=13 then .func (.func 176) #[] #[] else if k=14 then .func (.func 178) #[] #[] else if k=17 then .func (.func 179) #[] #[] else if k=18 then .func (.func 180) #[] #[] else if k=19 then .func (.func 182) #[] #[] else .nilFunc
theorem fnR_inv{v:Value}{b:UInt8}{r:List UInt8}{q:List MemPlace}{f0:Nat}(hone:((List.range Tryz.prog.funcs.size).filter fun f=>(Tryz.prog.funcs[f]?).any (·.name.toUTF8.data.toList==b::r))= [f0])(h:fnR v=some (.held (b::r),q)):v= .func (.func f0) #[] #[]:=by
 cases v<;>simp only [fnR,Option.some.injEq,Prod.mk.injEq,DataW.held.injEq,reduceCtorEq,false_and] at h
 obtain ⟨f,fn,e,hf,_,hb⟩:=funcToken_tells h.1
 rw [e]
 have hm:f∈(List.range Tryz.prog.funcs.size).filter fun f=>(Tryz.prog.funcs[f]?).any (·.name.toUTF8.data.toList==b::r):=
  List.mem_filter.2 ⟨List.mem_range.2 (Array.getElem?_eq_some_iff.1 hf).1,by rw [hf];simpa using hb⟩
 rw [hone] at hm
 rw [List.mem_singleton.1 hm]
theorem fnR_nil{v:Value}{q:List MemPlace}(h:fnR v=some (.nil,q)):v= .nilFunc:=by
 cases v<;>simp [fnR] at h
 rfl
end Go.Proofs.YtjcgmhlbkheadaaGreatDoor
namespace Go.Proofs.YtjcgmhlbkheadaaGreatDoor
open Go.RowKit
def idxJ:Option Nat→Int
 |some k=>k
 |none=> -1
def geJ:Option Nat→Bool
 |some _=>true
 |none=>false
theorem index_atJ(L:List Int)(z x:Int)(k:Nat)(hx:L[k]? =some z)(h:∀(j:Nat) y,j<k→L[j]? =some y→y≠x)(e:z=x):L.findIdx? (·==x)=some k:=by
 rw [List.findIdx?_eq_some_iff_getElem]
 obtain ⟨hk,hz⟩:=List.getElem?_eq_some_iff.1 hx
 refine ⟨hk,by rw [hz,e];simp,fun j hj hb=> ?_⟩
 have:=h j _ hj (List.getElem?_eq_getElem (by omega))
 simp at hb
 exact this hb
theorem i64J_cell{w:World}{g off:Nat}{L:List Int}(h:CellsAt w g off (L.map (Value.int .i64))){k:Nat}{z:Int}(hz:L[k]? =some z):w.cell? ⟨g,off+k,none⟩=some (.int .i64 z):=
 h k _ (by rw [List.getElem?_map,hz];rfl)
theorem index_intsJ(L:List Int)(g off n c:Nat)(x:Int)(w:World)(hc:CellsAt w g off (L.map (Value.int .i64)))(hn:L.length=n)(hm:n≤1000000):
  Calls Tryz.prog 98 #[.slice (some ⟨g,off,none⟩) n c, .int .i64 x] w fun e w'=>e= .returned (.int .i64 (idxJ (L.findIdx? (·==x))))∧Fr No w w':=by
 have HC:=Lib.hid hc
 have HN:=Lib.hid hn
 clear hc hn
 go_enter Tryz.func98,Tryz.ntmps98
 go_wp2_with fail
 go_loopw [8] (fun i wr=>∃k:Nat,k≤n∧i= .int .i64 k∧Hid (Fr No w wr)∧Hid (∀(j:Nat) z,j<k→L[j]? =some z→z≠x)) (fun i _=>n-(intOf i).toNat)
 case atStart=>exact ⟨0,Nat.zero_le _,rfl,Fr.refl _ _,fun j _ h=>absurd h (Nat.not_lt_zero _)⟩
 case round=>
  obtain ⟨k,hk,rfl,HF,HJ⟩:=hrel
  by_cases hlt:k<n
  ·obtain ⟨z,hz⟩:∃z,L[k]? =some z:=⟨L[k]'(by rw [HN.out];exact hlt),List.getElem?_eq_getElem _⟩
   have k0:=i64J_cell (HF.out.cells HC.out id) hz
   have HX:=Lib.hid hz
   clear hz
   by_cases hx:z=x
   ·have HFI:Hid (L.findIdx? (·==x)=some k):=index_atJ L z x k HX.out HJ.out hx
    have q:(x==z)=true:=by rw [beq_iff_eq];exact hx.symm
    have q':(z==x)=true:=by rw [beq_iff_eq];exact hx
    clear hx
    go_wp2_with fail
    go_ret
    exact ⟨by rw [HFI.out];rfl,HF.out⟩
   ·have HJ2:Hid (∀(j:Nat) y,j<k+1→L[j]? =some y→y≠x):=fun j y hj hy=>by
     by_cases e:j=k
     ·subst e
      rw [HX.out] at hy
      obtain rfl:=Option.some.inj hy
      exact hx
     ·exact HJ.out j y (by omega) hy
    have q:(x==z)=false:=by rw [beq_eq_false_iff_ne];exact Ne.symm hx
    have q':(z==x)=false:=by rw [beq_eq_false_iff_ne];exact hx
    clear hx
    go_wp2_with fail
    go_roundw
    case rel=>exact ⟨k+1,by omega,by go_num,HF.out,HJ2⟩
    case measure=>simp [intOf]<;>omega
  ·obtain rfl:k=n:=by omega
   have HFI:Hid (L.findIdx? (·==x)=none):=Lib.hid (by
    rw [List.findIdx?_eq_none_iff]
    intro y hy
    obtain ⟨j,hj,rfl⟩:=List.getElem_of_mem hy
    have:=HJ.out j _ (by rw [←HN.out];exact hj) (List.getElem?_eq_getElem hj)
    simpa using this)
   go_wp2_with fail
   go_ret
   exact ⟨by rw [HFI.out];rfl,HF.out⟩
theorem contains_idxJ(L:List Int)(x:Int):L.contains x=geJ (L.findIdx? (·==x)):=by
 cases h:L.findIdx? (·==x) with
 |none=>
  rw [List.findIdx?_eq_none_iff] at h
  cases hc:L.contains x with
  |false=>rfl
  |true=>
   rw [List.contains_iff_mem] at hc
   have:=h x hc
   simp at this
 |some k=>
  rw [List.findIdx?_eq_some_iff_getElem] at h
  obtain ⟨hk,h1, -⟩:=h
  have:L[k]=x:=by simpa using h1
  show _=true
  rw [List.contains_iff_mem,←this]
  exact List.getElem_mem hk
theorem contains_intsJ(L:List Int)(g off n c:Nat)(x:Int)(w:World)(hc:CellsAt w g off (L.map (Value.int .i64)))(hn:L.length=n)(hm:n≤1000000):
  Calls Tryz.prog 65 #[.slice (some ⟨g,off,none⟩) n c, .int .i64 x] w fun e w'=>e= .returned (.bool (L.contains x))∧Fr No w w':=by
 have H:=Lib.hid (index_intsJ L g off n c x w hc hn hm)
 rw [contains_idxJ]
 obtain ⟨o,ho⟩:∃o,L.findIdx? (·==x)=o:=⟨_,rfl⟩
 rw [ho] at H ⊢
 clear ho hc hn hm
 cases o with
 |none=>
  have H1:Hid (Calls Tryz.prog 98 #[.slice (some ⟨g,off,none⟩) n c, .int .i64 x] w fun e w'=>e= .returned (.int .i64 (-1))∧Fr No w w'):=H.out
  go_enter Tryz.func65,Tryz.ntmps65
  go_wp2_with (go_at_call 98;(with_reducible refine (H1.out).mono ?_);rintro e w' ⟨rfl,hf⟩)
  go_ret
  exact ⟨rfl,hf⟩
 |some k=>
  have H1:Hid (Calls Tryz.prog 98 #[.slice (some ⟨g,off,none⟩) n c, .int .i64 x] w fun e w'=>e= .returned (.int .i64 (k:Int))∧Fr No w w'):=H.out
  have g:(0:Int)≤(k:Int):=by omega
  go_enter Tryz.func65,Tryz.ntmps65
  go_wp2_with (go_at_call 98;(with_reducible refine (H1.out).mono ?_);rintro e w' ⟨rfl,hf⟩)
  go_ret
  exact ⟨rfl,hf⟩
theorem MachAt.inConds{w:World}(h:MachAt w):∃g off cap,w.cell? ⟨3,0,none⟩=some (.slice (some ⟨g,off,none⟩) 10 cap)∧∀w' (x:Int),Fr No w w'→
  Calls Tryz.prog 65 #[.slice (some ⟨g,off,none⟩) 10 cap, .int .i64 x] w' fun e w''=>e= .returned (.bool (condsL.contains x))∧Fr No w' w'':=by
 obtain ⟨g,off,cap,hc,hcs⟩:=h.conds
 exact ⟨g,off,cap,hc,fun w' x hf=>contains_intsJ condsL g off 10 cap x w' (hf.cells hcs id) rfl (by decide)⟩
end Go.Proofs.YtjcgmhlbkheadaaGreatDoor
