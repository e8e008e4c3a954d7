/- A world made: the memory that it has. package machine, plain: what a machine instruction does, and a run, in a world's bytes, maps and draws. package spec, plain: what a run that guesses does. .. -/
import Derived.Test.YtfmcmfiebehhiaaGreatDoorCore15
import Derived.Test.YtfmcmfiebehhiaaGreatDoorCore1
import Derived.Test.YtfmcmfiebehhiaaGreatDoorCore13
import Derived.Test.YtfmcmfiebehhiaaGreatDoorCore9
import Derived.Maps.OwnSet
import Derived.Maps.StringElems
import Derived.LaidMore
set_option linter.all false
set_option linter.unusedVariables false
set_option linter.unusedSimpArgs false
namespace Go.Proofs.YtfmcmfiebehhiaaGreatDoor
open Go.Proofs.Tryz
open Go.RowKit
theorem WF.app{a b}(ha:WF a)(hb:WF b)(c)(h1:∀x∈a,x.base+x.len≤c)(h2:∀y∈b,c≤y.base)(hl:(a++b).length≤4611686018427387904):WF (a++b):=
 ⟨fun r hr=>(List.mem_append.1 hr).elim (ha.ok r) (hb.ok r),List.pairwise_append.2 ⟨ha.apart,hb.apart,fun x hx y hy=>by have:=h1 x hx;have:=h2 y hy;omega⟩,hl⟩
theorem WF.one{r:Reg}(h:r.ok):WF [r]:=
 ⟨fun x hx=>by rw [List.mem_singleton.1 hx];exact h,List.pairwise_singleton _ _,by simp⟩
theorem WF.cons{r:Reg}{m:List Reg}(hr:r.ok)(hm:WF m)(h:∀y∈m,r.base+r.len≤y.base)(hl:m.length+1≤4611686018427387904):WF (r::m):=
 ⟨fun x hx=>by rcases List.mem_cons.1 hx with rfl|hx;exact hr;exact hm.ok x hx,List.pairwise_cons.2 ⟨h,hm.apart⟩,hl⟩
def memL(p:Nat)(mark:Int)(Pl:List UInt8)(ds:List MapD)(more:List Reg):List Reg:=presL (ownR0 p) (ownR1 mark) ownR2 (ownR3 Pl)++(natR::(more++mregs ds))
theorem memL_perm(p mark Pl ds more):(memL p mark Pl ds more).Perm (ownL p mark Pl ds++natR::more):=by
 unfold memL ownL
 rw [List.append_assoc]
 exact List.Perm.append_left _ (List.perm_append_comm (l₁:=natR::more) (l₂:=mregs ds))
theorem ok_of{r:Reg}(n)(hn:r.data.length=n)(h0:0<n)(h1:0≤r.base)(h2:r.base+(n:Int)≤18446744073709551615)(h3:n≤9223372036854775807):r.ok:=
 ⟨h1,by omega,by unfold Reg.len;rw [hn];exact h2,by omega⟩
theorem ld0(p):(ownR0 p).data.length=16:=by
 show (leBytes 8 196608++leBytes 8 (196608+p)).length=16
 rw [List.length_append,leBytes_length,leBytes_length]
theorem ld1(mark):(ownR1 mark).data.length=8:=leBytes_length _ _
theorem ld2:ownR2.data.length=512:=List.length_replicate
theorem ldn:natR.data.length=128:=List.length_replicate
theorem ok0(p):(ownR0 p).ok:=ok_of 16 (ld0 p) (by omega) (show (0:Int)≤65536 by omega) (show (65536:Int)+16≤_ by omega) (by omega)
theorem ok1(mark):(ownR1 mark).ok:=ok_of 8 (ld1 mark) (by omega) (show (0:Int)≤65552 by omega) (show (65552:Int)+8≤_ by omega) (by omega)
theorem ok2:ownR2.ok:=ok_of 512 ld2 (by omega) (show (0:Int)≤131072 by omega) (show (131072:Int)+512≤_ by omega) (by omega)
theorem ok3(Pl:List UInt8)(h0:Pl≠ [])(h:Pl.length≤200):(ownR3 Pl).ok:=ok_of Pl.length rfl (List.length_pos_iff.2 h0) (show (0:Int)≤196608 by omega) (show (196608:Int)+_≤_ by omega) (by omega)
theorem okn:natR.ok:=ok_of 128 ldn (by omega) (show (0:Int)≤262144 by omega) (show (262144:Int)+128≤_ by omega) (by omega)
theorem len0(p):(ownR0 p).len=16:=by unfold Reg.len;rw [ld0];rfl
theorem len1(mark):(ownR1 mark).len=8:=by unfold Reg.len;rw [ld1];rfl
theorem len2:ownR2.len=512:=by unfold Reg.len;rw [ld2];rfl
theorem lenn:natR.len=128:=by unfold Reg.len;rw [ldn];rfl
theorem pres_wf(p mark)(Pl:List UInt8)(h:Pl.length≤200):WF (presL (ownR0 p) (ownR1 mark) ownR2 (ownR3 Pl))∧∀x∈presL (ownR0 p) (ownR1 mark) ownR2 (ownR3 Pl),x.base+x.len≤262144:=by
 have l0:=len0 p
 have l1:=len1 mark
 have l2:=len2
 have l3:(ownR3 Pl).len=Pl.length:=rfl
 have b0:(ownR0 p).base=65536:=rfl
 have b1:(ownR1 mark).base=65552:=rfl
 have b2:ownR2.base=131072:=rfl
 have b3:(ownR3 Pl).base=196608:=rfl
 have o0:=ok0 p
 have o1:=ok1 mark
 have o3:=fun h0=>ok3 Pl h0 h
 generalize ownR0 p=r0 at*
 generalize ownR1 mark=r1 at*
 unfold presL
 split
 ·refine ⟨WF.cons o0 (WF.cons o1 (WF.one ok2) ?_ (by decide)) ?_ (by simp),?_⟩
  ·intro y hy;rw [List.mem_singleton.1 hy];omega
  ·intro y hy
   simp only [List.mem_cons,List.not_mem_nil,or_false] at hy
   rcases hy with rfl|rfl<;>omega
  ·intro y hy
   simp only [List.mem_cons,List.not_mem_nil,or_false] at hy
   rcases hy with rfl|rfl|rfl<;>omega
 ·rename_i h0
  refine ⟨WF.cons o0 (WF.cons o1 (WF.cons ok2 (WF.one (o3 h0)) ?_ (by simp)) ?_ (by simp)) ?_ (by simp),?_⟩
  ·intro y hy;rw [List.mem_singleton.1 hy];omega
  ·intro y hy
   simp only [List.mem_cons,List.not_mem_nil,or_false] at hy
   rcases hy with rfl|rfl<;>omega
  ·intro y hy
   simp only [List.mem_cons,List.not_mem_nil,or_false] at hy
   rcases hy with rfl|rfl|rfl<;>omega
  ·intro y hy
   simp only [List.mem_cons,List.not_mem_nil,or_false] at hy
   rcases hy with rfl|rfl|rfl|rfl<;>omega
structure MoreOk(more:List Reg):Prop where
 wf:WF more
 lo:∀r∈more,262272≤r.base
 hi:∀r∈more,r.base+r.len≤1048576
 few:more.length≤3
theorem mregs_lo(ds:List MapD):∀r∈mregs ds,1048576≤r.base:=by
 intro r hr
 obtain ⟨i,hi,rfl⟩:=List.getElem_of_mem hr
 have hl:i<ds.length:=by rw [mregs_length] at hi;exact hi
 have hg:=mregs_get ds i
 rw [List.getElem?_eq_getElem hi,List.getElem?_eq_getElem hl] at hg
 rw [Option.some.inj hg]
 show 1048576≤mbase i
 unfold mbase
 omega
theorem memL_wf(p mark)(Pl:List UInt8)(ds more)(h:Pl.length≤200)(hds:mayL ds=true)(hm:MoreOk more):WF (memL p mark Pl ds more):=by
 obtain ⟨hp,hb⟩:=pres_wf p mark Pl h
 have h4:=((mayL_iff ds).1 hds).1
 have ln:=lenn
 have bn:natR.base=262144:=rfl
 have hlen:=(presL_len (ownR0 p) (ownR1 mark) ownR2 (ownR3 Pl)).2
 have hf:=hm.few
 have hml:=mregs_length ds
 refine WF.app hp (WF.cons okn (WF.app hm.wf (mregs_wf hds) 1048576 hm.hi (mregs_lo ds) ?_) ?_ ?_) 262144 hb ?_ ?_
 ·rw [List.length_append];omega
 ·intro y hy
  rcases List.mem_append.1 hy with hy|hy
  ·have:=hm.lo y hy;omega
  ·have:=mregs_lo ds y hy;omega
 ·rw [List.length_append];omega
 ·intro y hy
  rcases List.mem_cons.1 hy with rfl|hy
  ·omega
  rcases List.mem_append.1 hy with hy|hy
  ·have:=hm.lo y hy;omega
  ·have:=mregs_lo ds y hy;omega
 ·rw [List.length_append,List.length_cons,List.length_append];omega
theorem memL_ok(p mark)(Pl:List UInt8)(ds more)(h:Pl.length≤200)(hds:mayL ds=true)(hm:MoreOk more):MemOk (memL p mark Pl ds more):=by
 obtain ⟨hp,hb⟩:=pres_wf p mark Pl h
 have h4:=((mayL_iff ds).1 hds).1
 have hlen:=(presL_len (ownR0 p) (ownR1 mark) ownR2 (ownR3 Pl)).2
 have hf:=hm.few
 have hml:=mregs_length ds
 refine ⟨?_,?_⟩
 ·unfold memL;rw [List.length_append,List.length_cons,List.length_append];omega
 ·intro r hr
  unfold memL at hr
  rcases List.mem_append.1 hr with hr|hr
  ·have h1:=hb r hr
   have h2:=(hp.ok r hr).low
   unfold Reg.len at h1
   omega
  rcases List.mem_cons.1 hr with rfl|hr
  ·simp [natR]
  rcases List.mem_append.1 hr with hr|hr
  ·have h1:=hm.hi r hr
   have h2:=hm.lo r hr
   unfold Reg.len at h1
   omega
  ·exact (mregs_ok hds).2 r hr
theorem memL_holds(p mark Pl ds more)(hds:mayL ds=true):holdsB (mregsOf ds) (memL p mark Pl ds more)=true:=by
 have h:=holds_self hds
 unfold holdsB at h ⊢
 rw [List.all_eq_true] at h ⊢
 intro x hx
 have:=h x hx
 rw [List.any_eq_true] at this ⊢
 obtain ⟨y,hy,hf⟩:=this
 exact ⟨y,by unfold memL;exact List.mem_append_right _ (List.mem_cons_of_mem _ (List.mem_append_right _ hy)),hf⟩
theorem ok_typed{r:Reg}(h:r.ok):r.typed:=⟨h.low,by have:=h.high;unfold Reg.len at this;omega,h.small⟩
theorem hnew_made(Pl:List UInt8)(P:ByteArray)(p mark mv dv mo ds w)(hPl:P=⟨Pl.toArray⟩)(hp:Pl.length=p)(hds:MapsIn w mv ds)(hml:mayL ds=true)(more:List Reg)(no co ao)(hmore:SrcAt w mo no (aflat more))(hmo:mo= .slice ao no co)(hno:more.length=no)(hok:MoreOk more)(D:List Int)(hD:U64sIn w dv D)(hd:D.length≤100)(h256:p≤200)(hmark:0≤mark∧mark<18446744073709551616):
  Calls prog 10 #[.agg #[mv, .int .i64 p], .agg #[.string P, .int .u64 mark, .slice none 0 0,dv],mo] w (HNewQ w ds p mark Pl D (memL p mark Pl ds more)):=by
 obtain ⟨am,cm,hm⟩:=hds.form
 obtain ⟨ad,cd,hdv⟩:=hD.form
 have hps:P.size=p:=by rw [hPl];show Pl.toArray.size=p;rw [List.size_toArray];exact hp
 have hwf:=memL_wf p mark Pl ds more (by omega) hml hok
 have h4:=((mayL_iff ds).1 hml).1
 have hf:=hok.few
 exact hnew_walk Pl P p mark mv mo dv am ad ao _ cm _ cd no co ds w hPl hps (hm ▸ hds) rfl hml more (hmo ▸ hmore) hno _ (memL_perm p mark Pl ds more) hwf (by omega)
  (fun r hr=>ok_typed (hwf.ok r ((memL_perm p mark Pl ds more).mem_iff.2 hr))) (memL_holds p mark Pl ds more hml) (memL_ok p mark Pl ds more (by omega) hml hok) D (hdv ▸ hD) rfl h256 hd hm hdv hmo hmark
structure HW where
 D:List Int
 S:List Tab
 m:List Reg
def callM(ds:List MapD)(W:HW)(id a0 a1 a2 a3:Int):(Int×Int)×HW:=
 if argHas id=false then ((0,45),W)
 else if id=7 then ((drawN W.D,0),{W with D:=W.D.tail})
 else
  let i:=((a0-9437184)%18446744073709551616).toNat
  match ds[i]? with
  |none=>((0,2),W)
  |some x=>
   let kk:=mtext W.m a1 x.key
   if kk.2≠0 then ((0,kk.2),W)
   else if id=1 then ((mlookup W.S i kk.1,0),W)
   else if id=3 then (((mdelete W.S i kk.1).2%18446744073709551616,0),{W with S:=(mdelete W.S i kk.1).1})
   else
    let vv:=mtext W.m a2 x.value
    if vv.2≠0 then ((0,vv.2),W)
    else if a3≠0 then ((18446744073709551594,0),W)
    else (((mupdate W.S W.m i kk.1 vv.1).2%18446744073709551616,0),{W with S:=(mupdate W.S W.m i kk.1 vv.1).1.1,m:=(mupdate W.S W.m i kk.1 vv.1).1.2})
def farM(f:Nat)(d:Int):Nat:=(((f:Int)+d)%18446744073709551616).toNat
theorem farM_lt(f d):farM f d<18446744073709551616:=by unfold farM;omega
def touchM(x:XI)(s:ST):Nat×Int:=
 if validM x=false then (0,0)
 else if x.kind=13 then (farM (s.reg x.src.toNat) x.disp,x.size)
 else if x.kind=14 then (farM (s.reg x.dst.toNat) x.disp,x.size)
 else if x.kind=17 then (farM (s.reg 4) (-8),8)
 else if x.kind=18∨x.kind=19 then (s.reg 4,8)
 else (0,0)
def idM(to_:Nat):Int:=signI (((to_:Int)-8388608)%18446744073709551616).toNat 64
def lostM(t:ST)(v:Nat):ST:=((((((((t.set 1 0).set 2 0).set 6 0).set 7 0).set 8 0).set 9 0).set 10 0).set 11 0).set 0 v
def exE{α:Type}(e:Int)(v:α):Except Int α:=if e=0 then .ok v else .error e
def stepM(ds:List MapD)(W:HW)(x:XI)(next:Nat)(s:ST):Except Int ST×HW:=
 if validM x=false then (.error 2,W)
 else
  let t:ST:={s with pc:=next}
  let a:=touchM x s
  if x.kind=13 then (exE (mread W.m a.1 a.2).2 (t.set x.dst.toNat (mread W.m a.1 a.2).1),W)
  else if x.kind=14 then (exE (mwrite W.m a.1 a.2 (s.reg x.src.toNat)).2 t,{W with m:=(mwrite W.m a.1 a.2 (s.reg x.src.toNat)).1})
  else if x.kind=17 then (exE (mwrite W.m a.1 8 (s.reg x.dst.toNat)).2 (t.set 4 a.1),{W with m:=(mwrite W.m a.1 8 (s.reg x.dst.toNat)).1})
  else if x.kind=18 then (exE (mread W.m a.1 8).2 ((t.set 4 (farM (s.reg 4) 8)).set x.dst.toNat (mread W.m a.1 8).1),W)
  else if x.kind=19 then (exE (mread W.m a.1 8).2 {(t.set 4 (farM (s.reg 4) 8)) with pc:=(mread W.m a.1 8).1},W)
  else if x.kind=15 then (.ok {t with pc:=farM next x.rel},W)
  else if x.kind=16 then (.ok (if takenM x.cond s then {t with pc:=farM next x.rel} else t),W)
  else if x.kind=20 then
   if argHas (idM (farM next x.rel))=false then (.error 110,W)
   else
    let q:=callM ds W (idM (farM next x.rel)) (s.reg 7) (s.reg 6) (s.reg 2) (s.reg 1)
    (exE q.1.2 (lostM t q.1.1.toNat),q.2)
  else (execM x t,W)
def fetchM(code:List UInt8)(pc:Nat):Option (XI×Nat):=
 let off:=((pc:Int)-4194304)%18446744073709551616
 if (code.length:Int)≤off then none
 else match decodeM (code.drop off.toNat) with
  |none=>none
  |some q=>some (q.1,(pc+q.2)%18446744073709551616)
def beginM(W:HW):Except Int ST×HW:=
 (exE (mwrite W.m 262264 8 10485760).2 {ST.zero with r:=ST.zero.r.set 4 262264,pc:=4194304},{W with m:=(mwrite W.m 262264 8 10485760).1})
def alusL:List Int:= [0,1,4,5,6,7]
def shiftsL:List Int:= [4,5,7]
def sx(v:Int)(b:Nat):Int:=signI (v%18446744073709551616).toNat b
def setM(x:XI):XI:=
 let y:XI:={XI.zero with kind:=x.kind,wide:=x.wide,dst:=x.dst%16}
 if x.kind=1∨x.kind=6∨x.kind=10 then {y with src:=x.src%16}
 else if x.kind=4 then {y with src:=x.src%16,alu:=alusL.getD (x.alu%6).toNat 0}
 else if x.kind=5 then {y with alu:=alusL.getD (x.alu%6).toNat 0,imm:=sx x.imm 32}
 else if x.kind=2 then {y with wide:=true,imm:=sx x.imm 32}
 else if x.kind=3 then {y with wide:=true,imm:=x.imm}
 else if x.kind=7∨x.kind=8∨x.kind=9 then y
 else if x.kind=11 then {y with alu:=shiftsL.getD (x.alu%3).toNat 0,imm:=if x.wide then x.imm%64 else x.imm%32}
 else if x.kind=12 then {y with alu:=shiftsL.getD (x.alu%3).toNat 0}
 else if x.kind=21 then {XI.zero with kind:=21}
 else x
def putM(x:XI):XI:=
 let y:XI:={XI.zero with kind:=x.kind}
 if x.kind=13∨x.kind=14 then {y with size:=2^(x.size%4).toNat,dst:=x.dst%16,src:=x.src%16,disp:=x.disp,wide:=decide (x.size%4=3)}
 else if x.kind=15 then {y with short:=x.short,rel:=if x.short then sx x.rel 8 else x.rel}
 else if x.kind=16 then {y with short:=x.short,rel:=if x.short then sx x.rel 8 else x.rel,cond:=condsL.getD (x.cond%10).toNat 0}
 else if x.kind=20 then {y with rel:=x.rel}
 else if x.kind=17∨x.kind=18 then {y with dst:=x.dst%16}
 else if x.kind=19 then y
 else setM x
def codeM(l:List XI):List UInt8:=l.flatMap fun x=>(encodeM (putM x)).getD []
def startW(D:List Int):HW:=⟨D, [],memL 0 0 [] [] []⟩
def xRet:XI:={XI.zero with kind:=19}
structure PM where
 W:HW
 s:ST
 waits:List (Nat×List UInt8)
structure TM where
 tr:List Nat
 sq:Nat
 sc:List UInt8
def itemM(t:TM):Nat×TM:=
 match t.sc with
 | []=>(0,t)
 |b::l=>(b.toNat,{t with sc:=l})
def tellM(x:XI)(s:ST)(t:TM):TM:={t with tr:=t.tr++s.pc::if 0<(touchM x s).2 then [(touchM x s).1] else []}
def drainsM(k:Int):Bool:=decide (k=21)||(decide (k=20)||decide (k=19))
def overM(addr:Nat)(n:Nat)(b:List UInt8)(q:Nat×List UInt8):List UInt8:=
 (List.range q.2.length).foldl (fun b (i:Nat)=>let at_:=(((q.1:Int)+i-addr)%18446744073709551616).toNat;if at_<n then b.set at_ (q.2.getD i 0) else b) b
def staleM(p:PM)(x:XI)(next n:Nat):Option ST:=
 let a:=touchM x p.s
 let q:=mtext p.W.m a.1 a.2
 if q.2≠0 then none
 else some {(p.s.set x.dst.toNat (leNum ((p.waits.reverse.take n).foldl (overM a.1 a.2.toNat) q.1))) with pc:=next}
def stepP(ds:List MapD)(p:PM)(x:XI)(next:Nat):Int×PM:=
 let a:=touchM x p.s
 match stepM ds p.W x next p.s with
 |(.error e,W')=>(e,{p with W:=W'})
 |(.ok s,W')=>(0,⟨W',s,if x.kind=14 then p.waits++ [(a.1,(mtext p.W.m a.1 a.2).1)] else if drainsM x.kind then [] else p.waits⟩)
def backM(x:XI)(p:PM)(t:TM):Nat×TM:=
 if x.kind≠13∨p.waits= [] then (0,t) else ((itemM t).1%(1+p.waits.length),(itemM t).2)
def otherM(x:XI)(next:Nat)(s:ST):Nat:=if takenM x.cond s then next else farM next x.rel
def jccM(x:XI)(t:TM):Bool×TM:=if x.kind=16 then (decide ((itemM t).1≠0),(itemM t).2) else (false,t)
def goM(ds:List MapD)(code:List UInt8):Nat→PM→TM→TM
 |0,_,t=>t
 |n+1,p,t=>
  match fetchM code p.s.pc with
  |none=>t
  |some (x,next)=>
   if drainsM x.kind then {t with sq:=t.sq+1,tr:=t.tr++ [p.s.pc]}
   else
    let j:=jccM x (tellM x p.s {t with sq:=t.sq+1})
    if j.1 then goM ds code n {p with s:={p.s with pc:=otherM x next p.s}} j.2
    else
     let b:=backM x p j.2
     if 0<b.1 then
      match staleM p x next b.1 with
      |none=>b.2
      |some s=>goM ds code n {p with s:=s} b.2
     else
      let q:=stepP ds p x next
      if q.1≠0 then b.2 else goM ds code n q.2 b.2
def wrongM(ds:List MapD)(code:List UInt8)(window:Nat)(p:PM)(x:XI)(next:Nat)(t:TM):TM:=
 let j:=jccM x t
 let t1:=if j.1 then goM ds code window {p with s:={p.s with pc:=otherM x next p.s}} j.2 else j.2
 let b:=backM x p t1
 if 0<b.1 then
  match staleM p x next b.1 with
  |none=>b.2
  |some s=>goM ds code window {p with s:=s} b.2
 else b.2
def runS(ds:List MapD)(code:List UInt8)(window:Nat):Nat→Nat→PM→TM→Except Int (Nat×Nat×TM)×HW
 |0,k,p,t=>(if p.s.pc=10485760 then .ok (p.s.reg 0,k,t) else .error 100,p.W)
 |n+1,k,p,t=>
  if p.s.pc=10485760 then (.ok (p.s.reg 0,k,t),p.W)
  else match fetchM code p.s.pc with
   |none=>(.error 110,p.W)
   |some (x,next)=>
    let t':=wrongM ds code window p x next (tellM x p.s t)
    let q:=stepP ds p x next
    if q.1≠0 then (.error q.1,q.2.W) else runS ds code window n (k+1) q.2 t'
def specM(ds:List MapD)(code:List UInt8)(window:Int)(script:List UInt8)(most:Int)(W:HW):Except Int (Nat×Nat×TM)×HW:=
 if window<0∨16<window then (.error 2,W)
 else match beginM W with
  |(.error e,W')=>(.error e,W')
  |(.ok s,W')=>runS ds code window.toNat most.toNat 0 ⟨W',s, []⟩ ⟨[],0,script⟩
def traceM(l:List XI):Option (List Nat×Nat):=
 match (specM [] (codeM l) 4 [1] 20 (startW [])).1 with
 | .ok (_,_,t)=>some (t.tr,t.sq)
 | .error _=>none
def exA:List XI:= [{XI.zero with kind:=15,short:=true},xRet]
def exB:List XI:= [{XI.zero with kind:=16,cond:=2,short:=true,rel:=7},{XI.zero with kind:=2,imm:=1},xRet]
def exC:List XI:= [{XI.zero with kind:=14,size:=3,dst:=4,src:=4,disp:= -8},{XI.zero with kind:=13,size:=3,src:=4,disp:= -8},{XI.zero with kind:=13,size:=3},xRet]
theorem guessed_true:traceM exA=some ([4194304,4194306,262264],0)∧traceM exB=some ([4194304,4194313,4194306,4194313,262264],1)
  ∧traceM exC=some ([4194304,262256,4194312,262256,4194320,0,4194320,262264,4194327,262264],1):=by decide+kernel
def putB(addr n:Nat)(q:Nat×List UInt8)(b:List UInt8)(i:Nat):List UInt8:=
 let at_:=(((q.1:Int)+i-addr)%18446744073709551616).toNat
 if at_<n then b.set at_ (q.2.getD i 0) else b
def overTo(addr n:Nat)(b:List UInt8)(q:Nat×List UInt8)(j:Nat):List UInt8:=(List.range j).foldl (putB addr n q) b
theorem overTo_succ(addr n:Nat)(b:List UInt8)(q:Nat×List UInt8)(j:Nat):overTo addr n b q (j+1)=putB addr n q (overTo addr n b q j) j:=by
 unfold overTo
 rw [List.range_succ,List.foldl_append]
 rfl
theorem overTo_all(addr n:Nat)(b:List UInt8)(q:Nat×List UInt8):overTo addr n b q q.2.length=overM addr n b q:=rfl
theorem putB_len(addr n:Nat)(q:Nat×List UInt8)(b:List UInt8)(i:Nat):(putB addr n q b i).length=b.length:=by
 unfold putB
 simp only
 split
 ·rw [List.length_set]
 ·rfl
theorem overTo_len(addr n:Nat)(b:List UInt8)(q:Nat×List UInt8):∀j,(overTo addr n b q j).length=b.length
 |0=>rfl
 |j+1=>by rw [overTo_succ,putB_len,overTo_len addr n b q j]
def laidTo(addr n:Nat)(text:List UInt8)(ws:List (Nat×List UInt8))(j:Nat):List UInt8:=(ws.reverse.take j).foldl (overM addr n) text
theorem laidTo_succ(addr n:Nat)(text:List UInt8)(ws:List (Nat×List UInt8)){j:Nat}{k:Nat}{x:Nat×List UInt8}(hk:k+1+j=ws.length)(hx:ws[k]? =some x):laidTo addr n text ws (j+1)=overM addr n (laidTo addr n text ws j) x:=by
 unfold laidTo
 have hr:ws.reverse[j]? =some x:=by
  rw [List.getElem?_reverse (by omega),←hx]
  congr 1
  omega
 rw [List.take_add_one,hr,List.foldl_append]
 rfl
theorem laidTo_len(addr n:Nat)(text:List UInt8)(ws:List (Nat×List UInt8)):∀j,(laidTo addr n text ws j).length=text.length:=by
 intro j
 unfold laidTo
 induction (ws.reverse.take j) generalizing text with
 |nil=>rfl
 |cons x l ih=>rw [List.foldl_cons,ih,←overTo_all,overTo_len]
theorem stale_none{p:PM}{x:XI}{next n:Nat}{a:Nat×Int}(ha:touchM x p.s=a)(h:(mtext p.W.m a.1 a.2).2≠0):staleM p x next n=none:=by
 unfold staleM
 simp only [ha,if_pos h]
theorem stale_some{p:PM}{x:XI}{next n:Nat}{a:Nat×Int}(ha:touchM x p.s=a)(h:(mtext p.W.m a.1 a.2).2=0):staleM p x next n=some {(p.s.set x.dst.toNat (leNum (laidTo a.1 a.2.toNat (mtext p.W.m a.1 a.2).1 p.waits n))) with pc:=next}:=by
 unfold staleM
 simp only [ha,if_neg (fun c:(mtext p.W.m a.1 a.2).2≠0=>c h)]
 rfl
theorem mtext_len{m:List Reg}{addr n:Int}(h:(mtext m addr n).2=0):0≤n∧((mtext m addr n).1.length:Int)=n:=by
 unfold mtext at h ⊢
 by_cases h0:n<0
 ·rw [if_pos h0] at h
  exact absurd h (by decide)
 ·rw [if_neg h0] at h ⊢
  refine ⟨by omega,?_⟩
  by_cases h1:n=0
  ·rw [if_pos h1,h1];rfl
  ·rw [if_neg h1] at h ⊢
   cases hs:spot m addr n with
   |none=>rw [hs] at h;exact absurd (show (70:Int)=0 from h) (by decide)
   |some i=>
    obtain ⟨hi,hp,_⟩:=List.findIdx?_eq_some_iff_getElem.1 hs
    simp only [List.getElem?_eq_getElem hi,Option.map_some,Option.getD_some]
    rw [Reg.cut_length hp (by omega)]
    omega
structure KeptM(m m':List Reg):Prop where
 shape:mshape m'=mshape m
 ro:∀(i:Nat) (r:Reg),m[i]? =some r→r.free=false→m'[i]? =some r
theorem KeptM.refl(m):KeptM m m:=⟨rfl,fun _ _ h _=>h⟩
theorem KeptM.trans{a b c}(h:KeptM a b)(g:KeptM b c):KeptM a c:=⟨g.shape.trans h.shape,fun i r hi hf=>g.ro i r (h.ro i r hi hf) hf⟩
theorem kept_mput{m:List Reg}{addr:Int}{bs:List UInt8}(h:∀i r,spot m addr bs.length=some i→m[i]? =some r→r.free=true):KeptM m (mput m addr bs):=by
 refine ⟨mshape_mput _ _ _,fun j r hj hf=> ?_⟩
 unfold mput
 split
 ·exact hj
 ·rename_i i hs
  rw [List.getElem?_modify]
  by_cases e:i=j
  ·subst e
   rw [h _ _ hs hj] at hf
   cases hf
  ·simp [e,hj]
theorem kept_mwrite(m:List Reg)(addr n:Int)(v:Nat):KeptM m (mwrite m addr n v).1:=by
 unfold mwrite
 split
 ·rename_i hn
  split
  ·exact KeptM.refl _
  ·rename_i i hs
   split
   ·rename_i hfree
    refine kept_mput fun j r hj hr=> ?_
    have hlen:((leBytes n.toNat v).length:Int)=n:=by
     rw [leBytes_length]
     have:=(sizeOk_iff n).1 hn
     omega
    rw [hlen,hs] at hj
    obtain rfl:=Option.some.inj hj
    rw [hr] at hfree
    exact hfree
   ·exact KeptM.refl _
 ·exact KeptM.refl _
theorem kept_mupdate{S:List Tab}{m:List Reg}(hS:∀t∈S,t.ok)(hw:WF m)(h:HoldsM S m)(i:Int)(key val:List UInt8):KeptM m (mupdate S m i key val).1.2:=by
 have put:∀(k p:Nat) (t:Tab),S[k]? =some t→p<t.ks.length→(val.length:Int)=t.d.value→KeptM m (mput m (mplace k p t) val):=by
  intro k p t hk hp hv
  obtain ⟨j,r,hj,h0,h1,hf,_⟩:=h.place hk (hS t (List.mem_of_getElem? hk)) hp
  refine ⟨mshape_mput _ _ _,fun i' r' hi' hf'=> ?_⟩
  rw [mput_get hw hj h0 (by rw [hv];exact h1)]
  by_cases e:i'=j
  ·subst e
   rw [hj] at hi'
   obtain rfl:=Option.some.inj hi'
   rw [hf] at hf'
   cases hf'
  ·rw [if_neg e];exact hi'
 unfold mupdate
 split
 ·exact KeptM.refl _
 ·rename_i t hm
  obtain ⟨k,rfl,hk,hkl⟩:=mhas_some hm
  have ht:=hS t (List.mem_of_getElem? hk)
  split
  ·rename_i hv
   split
   ·rename_i p hp
    exact put k p t hk (find_some hp).1 hv
   ·split
    ·exact KeptM.refl _
    ·split
     ·exact KeptM.refl _
     ·rename_i p hp
      exact put k p t hk (find_some hp).1 hv
  ·exact KeptM.refl _
theorem kept_call{ds:List MapD}{W:HW}(hS:∀t∈W.S,t.ok)(hw:WF W.m)(h:HoldsM W.S W.m)(id a0 a1 a2 a3:Int):KeptM W.m (callM ds W id a0 a1 a2 a3).2.m:=by
 unfold callM
 split
 ·exact KeptM.refl _
 ·split
  ·exact KeptM.refl _
  ·dsimp only
   split
   ·exact KeptM.refl _
   ·split
    ·exact KeptM.refl _
    ·split
     ·exact KeptM.refl _
     ·split
      ·exact KeptM.refl _
      ·split
       ·exact KeptM.refl _
       ·split
        ·exact KeptM.refl _
        ·exact kept_mupdate hS hw h _ _ _
theorem ite_keptHW{b:Prop}[Decidable b]{m:List Reg}{x y:Except Int ST×HW}(hx:KeptM m x.2.m)(hy:KeptM m y.2.m):KeptM m (if b then x else y).2.m:=by split<;>assumption
theorem kept_step{ds:List MapD}{W:HW}(hS:∀t∈W.S,t.ok)(hw:WF W.m)(h:HoldsM W.S W.m)(x:XI)(next:Nat)(s:ST):KeptM W.m (stepM ds W x next s).2.m:=by
 unfold stepM
 dsimp only
 repeat' first
  |exact KeptM.refl _
  |exact kept_mwrite _ _ _ _
  |exact kept_call hS hw h _ _ _ _ _
  |refine ite_keptHW ?_ ?_
end Go.Proofs.YtfmcmfiebehhiaaGreatDoor
namespace Go.Proofs.YtfmcmfiebehhiaaGreatDoor
open Go.Proofs.Tryz
open Go.RowKit
open Go.Maps (Keyed int_keyed)
def loadsD:DataW Unit:= .map [(.int .i64 1, .lit (.string [15,182])),(.int .i64 2, .lit (.string [15,183])),(.int .i64 4, .lit (.string [139])),(.int .i64 8, .lit (.string [139]))]
def storesD:DataW Unit:= .map [(.int .i64 1, .lit (.string [136])),(.int .i64 2, .lit (.string [137])),(.int .i64 4, .lit (.string [137])),(.int .i64 8, .lit (.string [137]))]
def doesD:DataW Unit:= .map [(.int .i64 0, .lit (.int .u8 0)),(.int .i64 1, .lit (.int .u8 64)),(.int .i64 4, .lit (.int .u8 80)),(.int .i64 5, .lit (.int .u8 16)),(.int .i64 6, .lit (.int .u8 160)),(.int .i64 7, .lit (.int .u8 16))]
def shiftsD:DataW Unit:= .map [(.int .i64 4, .lit (.int .u8 96)),(.int .i64 5, .lit (.int .u8 112)),(.int .i64 7, .lit (.int .u8 192))]
noncomputable def fnR(v:Value):Option (DataW (List UInt8)×List MemPlace):=
 match v with
 | .nilFunc=>some (.nil, [])
 | .func c a b=>some (.held (funcToken prog (168, .func c a b)), [])
 |_=>none
def touchesN(i:UInt8):List UInt8:= [102,105,114,101,119,97,108,108,47,109,97,99,104,105,110,101,46,116,111,117,99,104,101,115,36,i]
def touchesD:DataW (List UInt8):= .map [(.int .i64 13, .held (touchesN 49)),(.int .i64 14, .held (touchesN 50)),(.int .i64 17, .held (touchesN 51)),(.int .i64 18, .held (touchesN 52)),(.int .i64 19, .held (touchesN 53))]
def FI.cells(f:FI):List Value:= [.string (bA' f.op), .int .i64 f.behind, .int .i64 f.digit, .int .i64 f.alu, .int .i64 f.imm, .bool f.wide, .bool f.narrow]
def formsC:List Value:=formsL.flatMap FI.cells
def condsC:List Value:=condsL.map (Value.int .i64)
def lostC:List Value:= [.int .i64 1, .int .i64 2, .int .i64 6, .int .i64 7, .int .i64 8, .int .i64 9, .int .i64 10, .int .i64 11]
def VarMap{H:Type}(w:World)(g:Nat)(k:TypeId)(R:Value→Option (DataW H×List MemPlace))(D:DataW H):Prop:=∃bm n,w.cell? ⟨g,0,none⟩=some (.map (some bm))∧w.ownsMap prog k R bm n D
theorem VarMap.fr{H}{w w':World}{g k}{R:Value→Option (DataW H×List MemPlace)}{D:DataW H}(h:VarMap w g k R D)(hf:Fr No w w'):VarMap w' g k R D:=by
 obtain ⟨bm,n,hc,es,clock,hb,hF,hn,hD⟩:=h
 refine ⟨bm,n,hf.cell hc id,es,clock,?_,hF,hn,hD⟩
 have hlt:bm<w.heap.size:=(Array.getElem?_eq_some_iff.1 hb).1
 rw [hf.block bm hlt id]
 exact hb
structure MachAt(w:World):Prop where
 forms:CellsAt w 1 0 formsC
 loads:VarMap w 2 3 (plainElem prog 9) loadsD
 stores:VarMap w 6 3 (plainElem prog 9) storesD
 conds:∃g off cap,w.cell? ⟨3,0,none⟩=some (.slice (some ⟨g,off,none⟩) 10 cap)∧CellsAt w g off condsC
 does:VarMap w 8 3 (plainElem prog 5) doesD
 shifts:VarMap w 5 3 (plainElem prog 5) shiftsD
 args:ArgsAt w
 touches:VarMap w 0 3 fnR touchesD
 lost:CellsAt w 4 0 lostC
theorem MachAt.fr{w w'}(h:MachAt w)(hf:Fr No w w'):MachAt w':=by
 obtain ⟨g,off,cap,hc,hcs⟩:=h.conds
 exact ⟨hf.cells h.forms id,h.loads.fr hf,h.stores.fr hf,⟨g,off,cap,hf.cell hc id,hf.cells hcs id⟩,h.does.fr hf,h.shifts.fr hf,h.args.fr hf,h.touches.fr hf,hf.cells h.lost id⟩
theorem at_strs:∀(L:List (Int×List UInt8)) (n:Int),(DataW.map (L.map fun x=>(Lit.int .i64 x.1,DataW.lit (.string x.2))):DataW Unit).atKey (.int .i64 n) (.lit (.string []))= .lit (.string (((L.find? fun x=>x.1==n).map (·.2)).getD []))
 | [],n=>rfl
 |x::L,n=>by
  have ih:=at_strs L n
  unfold DataW.atKey at ih ⊢
  simp only [List.map_cons,List.find?_cons] at ih ⊢
  have e:(Lit.int .i64 x.1).sameKey (.int .i64 n)=(x.1==n):=by rw [Bool.eq_iff_iff];simp [Lit.sameKey]
  rw [e]
  cases hx:(x.1==n)
  ·simpa [hx] using ih
  ·simp
theorem at_u8s:∀(L:List (Int×Int)) (n:Int),(DataW.map (L.map fun x=>(Lit.int .i64 x.1,DataW.lit (.int .u8 x.2))):DataW Unit).atKey (.int .i64 n) (.lit (.int .u8 0))= .lit (.int .u8 (((L.find? fun x=>x.1==n).map (·.2)).getD 0))
 | [],n=>rfl
 |x::L,n=>by
  have ih:=at_u8s L n
  unfold DataW.atKey at ih ⊢
  simp only [List.map_cons,List.find?_cons] at ih ⊢
  have e:(Lit.int .i64 x.1).sameKey (.int .i64 n)=(x.1==n):=by rw [Bool.eq_iff_iff];simp [Lit.sameKey]
  rw [e]
  cases hx:(x.1==n)
  ·simpa [hx] using ih
  ·simp
theorem loads_at(n):loadsD.atKey (.int .i64 n) (.lit (.string []))= .lit (.string (loadsM n)):=by
 have h:=at_strs [(1, [15,182]),(2, [15,183]),(4, [139]),(8, [139])] n
 refine h.trans (congrArg (fun l=>DataW.lit (.string l)) ?_)
 unfold loadsM
 by_cases h1:n=1
 ·subst h1;rfl
 by_cases h2:n=2
 ·subst h2;rfl
 by_cases h4:n=4
 ·subst h4;rfl
 by_cases h8:n=8
 ·subst h8;rfl
 simp [h1,h2,h4,h8,Ne.symm h1,Ne.symm h2,Ne.symm h4,Ne.symm h8,List.find?_cons,show ((1:Int)==n)=false by simp;omega,show ((2:Int)==n)=false by simp;omega,show ((4:Int)==n)=false by simp;omega,show ((8:Int)==n)=false by simp;omega]
theorem stores_at(n):storesD.atKey (.int .i64 n) (.lit (.string []))= .lit (.string (storesM n)):=by
 have h:=at_strs [(1, [136]),(2, [137]),(4, [137]),(8, [137])] n
 refine h.trans (congrArg (fun l=>DataW.lit (.string l)) ?_)
 unfold storesM
 by_cases h1:n=1
 ·subst h1;rfl
 by_cases h2:n=2
 ·subst h2;rfl
 by_cases h4:n=4
 ·subst h4;rfl
 by_cases h8:n=8
 ·subst h8;rfl
 simp [h1,h2,h4,h8,List.find?_cons,show ((1:Int)==n)=false by simp;omega,show ((2:Int)==n)=false by simp;omega,show ((4:Int)==n)=false by simp;omega,show ((8:Int)==n)=false by simp;omega]
theorem does_at(n):doesD.atKey (.int .i64 n) (.lit (.int .u8 0))= .lit (.int .u8 (doesM n)):=by
 have h:=at_u8s [(0,0),(1,64),(4,80),(5,16),(6,160),(7,16)] n
 refine h.trans (congrArg (fun l=>DataW.lit (.int .u8 l)) ?_)
 unfold doesM
 by_cases h0:n=0
 ·subst h0;rfl
 by_cases h1:n=1
 ·subst h1;rfl
 by_cases h4:n=4
 ·subst h4;rfl
 by_cases h5:n=5
 ·subst h5;rfl
 by_cases h6:n=6
 ·subst h6;rfl
 by_cases h7:n=7
 ·subst h7;rfl
 simp [h0,h1,h4,h5,h6,h7,List.find?_cons,show ((0:Int)==n)=false by simp;omega,show ((1:Int)==n)=false by simp;omega,show ((4:Int)==n)=false by simp;omega,show ((5:Int)==n)=false by simp;omega,show ((6:Int)==n)=false by simp;omega,show ((7:Int)==n)=false by simp;omega]
theorem str_look{w:World}{bm n}{D:DataW Unit}(h:w.ownsMap prog 3 (plainElem prog 9) bm n D){k}(hw:(Lit.int .i64 k).wf=true){L}(hD:D.atKey (.int .i64 k) (.lit (.string []))= .lit (.string L)):
  (Instr.lookup 213 (.map (some bm)) (.int .i64 k) false).run prog w= .ok (.string (bA' L)) w:=by
 obtain ⟨v,ps,hrun,hv⟩:=h.lookup (int_keyed underlying3) underlying213 (z:= .string ⟨#[]⟩) (by kernel_rfl) (plainElem_string underlying9 (by decide)) (Go.Maps.keyOf_int_mk underlying3 hw)
 obtain ⟨a,rfl,ha,_⟩:=plainElem_string_inv underlying9 hv
 have h1:D.atKey (.int .i64 k) (.lit (.string []))= .lit (.string a.data.toList):=congrArg Prod.fst ha
 rw [hD] at h1
 simp only [DataW.lit.injEq,Lit.string.injEq] at h1
 rw [hrun,h1]
 rfl
theorem u8_look{w:World}{bm n}{D:DataW Unit}(h:w.ownsMap prog 3 (plainElem prog 5) bm n D){k}(hw:(Lit.int .i64 k).wf=true){a}(hD:D.atKey (.int .i64 k) (.lit (.int .u8 0))= .lit (.int .u8 a)):
  (Instr.lookup 229 (.map (some bm)) (.int .i64 k) false).run prog w= .ok (.int .u8 a) w:=by
 obtain ⟨c,hrun,hat,_⟩:=h.lookup_int (int_keyed underlying3) underlying229 underlying5 (by kernel_rfl) (Go.Maps.keyOf_int_mk underlying3 hw)
 rw [hD] at hat
 simp only [DataW.lit.injEq,Lit.int.injEq,true_and] at hat
 rw [hrun,hat]
def touchF(k:Int):Value:=if k=13 then .func (.func 192) #[] #[] else if k=14 then .func (.func 194) #[] #[] else if k=17 then .func (.func 195) #[] #[] else if k=18 then .func (.func 196) #[] #[] else if k=19 then .func (.func 198) #[] #[] else .nilFunc
theorem fnR_inv{v b r q f0}(hone:((List.range prog.funcs.size).filter fun f=>(prog.funcs[f]?).any (·.name.toUTF8.data.toList==b::r))= [f0])(h:fnR v=some (.held (b::r),q)):v= .func (.func f0) #[] #[]:=by
 cases v<;>simp only [fnR,Option.some.injEq,Prod.mk.injEq,DataW.held.injEq,reduceCtorEq,false_and] at h
 obtain ⟨f,fn,e,hf,_,hb⟩:=funcToken_tells h.1
 rw [e]
 have hm:f∈(List.range prog.funcs.size).filter fun f=>(prog.funcs[f]?).any (·.name.toUTF8.data.toList==b::r):=
  List.mem_filter.2 ⟨List.mem_range.2 (Array.getElem?_eq_some_iff.1 hf).1,by rw [hf];simpa using hb⟩
 rw [hone] at hm
 rw [List.mem_singleton.1 hm]
theorem fnR_nil{v q}(h:fnR v=some (.nil,q)):v= .nilFunc:=by
 cases v<;>simp [fnR] at h
 rfl
end Go.Proofs.YtfmcmfiebehhiaaGreatDoor

