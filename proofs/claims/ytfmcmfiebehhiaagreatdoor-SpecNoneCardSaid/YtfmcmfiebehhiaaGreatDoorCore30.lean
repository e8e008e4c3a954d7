/- package spec: the boxes of a run and of a path. firewalllaw12.Set, firewalllaw13.Put: the arithmetic that they do. firewalllaw12.Set: an instruction put to such as may be (begun). Regions that draw .. -/
import Derived.Test.YtfmcmfiebehhiaaGreatDoorCore29
import Derived.Test.YtfmcmfiebehhiaaGreatDoorCore5
import Derived.Test.YtfmcmfiebehhiaaGreatDoorCore23
import Derived.Test.YtfmcmfiebehhiaaGreatDoorCore21
import Derived.Test.YtfmcmfiebehhiaaGreatDoorCore17
import Derived.Test.YtfmcmfiebehhiaaGreatDoorCore9
import Derived.Test.YtfmcmfiebehhiaaGreatDoorCore2
set_option linter.all false
set_option linter.unusedVariables false
set_option linter.unusedSimpArgs false
set_option maxRecDepth 100000
set_option maxHeartbeats 1000000
namespace Go.Proofs.YtfmcmfiebehhiaaGreatDoor
open Go.Proofs.Tryz
open Go.RowKit
def pcells(bw:Nat)(s:ST)(wv:Value):List Value:= .pointer (some ⟨bw,0,none⟩)::(s.cells++ [wv])
theorem pcells_len{bw:Nat}{s:ST}(h:s.ok)(wv:Value):(pcells bw s wv).length=23:=by
 unfold pcells;rw [List.length_cons,List.length_append,ST.cells_len h];rfl
def wflat(l:List (Nat×List UInt8)):List Value:=l.flatMap fun q=> [.int .u64 (q.1:Int), .string (bA' q.2)]
def u64L(l:List Nat):List Value:=l.map fun n:Nat=> .int .u64 (n:Int)
def Out(w0:World)(N:Nat)(RL:RQ)(k:Nat):Prop:=w0.heap.size≤k∧(N≤k∨RL.q k)
structure PathAt(w0:World)(N bw mb:Nat)(ds:List MapD)(pk:Nat)(RL:RQ)(bp:Nat)(P:Nat→Prop)(q:PM)(w:World):Prop where
 wm:WM w0 N bw mb ds pk RL q.W w
 ok:q.s.ok
 mok:MemOk q.W.m
 box:∃wv,CellsAt w bp 0 (pcells bw q.s wv)∧w.ownsRow 0 119 2 wv q.waits.length (wflat q.waits)∧∀k,wv.ownBlock=some k→P k∧k≠bp
 open_:∀j,w.frozen? ⟨bp,j,none⟩=false
 own:P bp
 apart:∀k,P k→Out w0 N RL k
 qlo:∀k,RL.q k→k<RL.lo
 lens:∀x∈q.waits,x.1<18446744073709551616∧x.2.length≤140737488355328
 plt:∀k,P k→k<w.heap.size
theorem Out.not{w0:World}{N k:Nat}{RL:RQ}(h:Out w0 N RL k)(hq:∀k,RL.q k→k<RL.lo):¬Zof w0 N RL k:=fun hz=>by
 rcases h.2 with h1|h1
 ·have:=hz.2.2;omega
 ·have:=hq k h1;have:=hz.2.1;omega
section
variable {w0 w w':World} {N bw mb pk bp:Nat} {ds:List MapD} {RL:RQ} {P X:Nat→Prop} {q:PM}
theorem PathAt.lt(h:PathAt w0 N bw mb ds pk RL bp P q w):bp<w.heap.size:=by
 obtain ⟨wv,hc,_⟩:=h.box
 exact World.block_lt_of_cell? w _ (hc 0 _ rfl)
theorem PathAt.fr(h:PathAt w0 N bw mb ds pk RL bp P q w)(hf:Fr X w w')(hX:∀k,X k→Out w0 N RL k∧¬P k):PathAt w0 N bw mb ds pk RL bp P q w':=by
 have hp:∀k,P k→¬X k:=fun k hk hx=>(hX k hx).2 hk
 obtain ⟨wv,hc,hr,hk⟩:=h.box
 exact ⟨h.wm.apart hf (fun k hk=>(hX k hk).1.1) (fun k hk=>(hX k hk).1.2),h.ok,h.mok,⟨wv,hf.cells hc (hp _ h.own),ownsRow_fr hr hf (fun k hq=>hp k (hk k hq).1),hk⟩,fun j=>by rw [cells_frozen hf h.lt (hp _ h.own)];exact h.open_ j,h.own,h.apart,h.qlo,h.lens,fun k hk=>Nat.lt_of_lt_of_le (h.plt k hk) hf.size⟩
theorem PathAt.no(h:PathAt w0 N bw mb ds pk RL bp P q w)(hf:Fr No w w'):PathAt w0 N bw mb ds pk RL bp P q w':=h.fr hf fun _ hk=>hk.elim
theorem PathAt.world(h:PathAt w0 N bw mb ds pk RL bp P q w){W':HW}(hw:WM w0 N bw mb ds pk RL W' w')(hm:MemOk W'.m)(hf:Fr (Zof w0 N RL) w w'):PathAt w0 N bw mb ds pk RL bp P {q with W:=W'} w':=by
 have hp:∀k,P k→¬Zof w0 N RL k:=fun k hk=>(h.apart k hk).not h.qlo
 obtain ⟨wv,hc,hr,hk⟩:=h.box
 exact ⟨hw,h.ok,hm,⟨wv,hf.cells hc (hp _ h.own),ownsRow_fr hr hf (fun k hq=>hp k (hk k hq).1),hk⟩,fun j=>by rw [cells_frozen hf h.lt (hp _ h.own)];exact h.open_ j,h.own,h.apart,h.qlo,h.lens,fun k hk=>Nat.lt_of_lt_of_le (h.plt k hk) hf.size⟩
end
def ScrAt(w:World)(v:Value)(script:List UInt8)(K:Nat→Prop):Prop:=
 (script= []∧∃a c,v= .slice a 0 c)∨∃g off cap,v= .slice (some ⟨g,off,none⟩) script.length cap∧CellsAt w g off (u8s script)∧K g
theorem ScrAt.fr{w w':World}{v:Value}{script:List UInt8}{K X:Nat→Prop}(h:ScrAt w v script K)(hf:Fr X w w')(hK:∀k,K k→¬X k):ScrAt w' v script K:=by
 rcases h with h|⟨g,off,cap,e,hc,hk⟩
 ·exact .inl h
 ·exact .inr ⟨g,off,cap,e,hf.cells hc (hK g hk),hk⟩
theorem ScrAt.form{w:World}{v:Value}{script:List UInt8}{K:Nat→Prop}(h:ScrAt w v script K):∃a c,v= .slice a script.length c:=by
 rcases h with ⟨rfl,a,c,rfl⟩|⟨g,off,cap,rfl,_⟩
 ·exact ⟨a,c,rfl⟩
 ·exact ⟨_,cap,rfl⟩
structure SpRun(br bi bs:Nat)(code:List UInt8)(window:Nat)(script:List UInt8)(R K:Nat→Prop)(t:TM)(w:World):Prop where
 c0:w.cell? ⟨br,0,none⟩=some (.string (bA' code))
 c1:w.cell? ⟨br,1,none⟩=some (.int .i64 window)
 c2:w.cell? ⟨br,2,none⟩=some (.func (.func 34) #[] #[.pointer (some ⟨bi,0,none⟩), .pointer (some ⟨bs,0,none⟩)])
 row:∃tv,w.cell? ⟨br,3,none⟩=some tv∧w.ownsRow 0 37 1 tv t.tr.length (u64L t.tr)∧∀k,tv.ownBlock=some k→R k∧k≠br∧k≠bi
 c4:w.cell? ⟨br,4,none⟩=some (.int .i64 t.sq)
 open_:∀j,w.frozen? ⟨br,j,none⟩=false
 openi:∀j,w.frozen? ⟨bi,j,none⟩=false
 own:R br∧R bi∧br≠bi
 at_:∃k:Nat,w.cell? ⟨bi,0,none⟩=some (.int .i64 k)∧t.sc=script.drop k∧k≤script.length
 scr:∃v,w.cell? ⟨bs,0,none⟩=some v∧ScrAt w v script K
 keep:K bs
 apart:∀k,R k→¬K k
 small:script.length≤1000000
 klt:∀k,K k→k<w.heap.size
 rlt:∀k,R k→k<w.heap.size
section
variable {w w':World} {br bi bs window:Nat} {code script:List UInt8} {R K X:Nat→Prop} {t:TM}
theorem SpRun.lt(h:SpRun br bi bs code window script R K t w):br<w.heap.size∧bi<w.heap.size:=by
 obtain ⟨k,hk,_⟩:=h.at_
 exact ⟨World.block_lt_of_cell? w _ h.c0,World.block_lt_of_cell? w _ hk⟩
theorem SpRun.fr(h:SpRun br bi bs code window script R K t w)(hf:Fr X w w')(hX:∀k,X k→¬R k∧¬K k):SpRun br bi bs code window script R K t w':=by
 have hr:∀k,R k→¬X k:=fun k hk hx=>(hX k hx).1 hk
 have hK:∀k,K k→¬X k:=fun k hk hx=>(hX k hx).2 hk
 obtain ⟨tv,t1,t2,t3⟩:=h.row
 obtain ⟨k,k1,k2⟩:=h.at_
 obtain ⟨v,v1,v2⟩:=h.scr
 have b1:=hr _ h.own.1
 have b2:=hr _ h.own.2.1
 exact ⟨hf.cell h.c0 b1,hf.cell h.c1 b1,hf.cell h.c2 b1,⟨tv,hf.cell t1 b1,ownsRow_fr t2 hf (fun k hk=>hr k (t3 k hk).1),t3⟩,hf.cell h.c4 b1,fun j=>by rw [cells_frozen hf h.lt.1 b1];exact h.open_ j,fun j=>by rw [cells_frozen hf h.lt.2 b2];exact h.openi j,h.own,⟨k,hf.cell k1 b2,k2⟩,⟨v,hf.cell v1 (hK _ h.keep),v2.fr hf hK⟩,h.keep,h.apart,h.small,fun k hk=>Nat.lt_of_lt_of_le (h.klt k hk) hf.size,fun k hk=>Nat.lt_of_lt_of_le (h.rlt k hk) hf.size⟩
theorem SpRun.no(h:SpRun br bi bs code window script R K t w)(hf:Fr No w w'):SpRun br bi bs code window script R K t w':=h.fr hf fun _ hk=>hk.elim
end
end Go.Proofs.YtfmcmfiebehhiaaGreatDoor
namespace Go.Proofs.YtfmcmfiebehhiaaGreatDoor
open Go.Proofs.Tryz
open Go.RowKit
theorem and_low_i64(x n)(hn:n≤6)(m)(hm:m=((2^n-1:Nat):Int)):bits .and .i64 x m=x%((2^n:Nat):Int):=by
 have hp:0<2^n:=Nat.two_pow_pos n
 have hle:2^n≤64:=by
  have:=Nat.pow_le_pow_right (n:=2) (by decide) hn
  exact this
 have hd:(2^n:Nat)∣18446744073709551616:=by
  rw [show (18446744073709551616:Nat)=2^64 by rfl]
  exact Nat.pow_dvd_pow 2 (by omega)
 subst hm
 unfold bits
 simp only [BitVec.ofInt_natCast,BitVec.toNat_and,BitVec.toNat_ofNat,BitVec.toNat_ofInt]
 rw [show IntKind.i64.bits=64 by rfl,Nat.mod_eq_of_lt (show 2^n-1<2^64 by omega),Nat.and_two_pow_sub_one_eq_mod]
 have hlt:=Nat.mod_lt (x%((2^64:Nat):Int)).toNat hp
 rw [IntWalk.i64_in _ (by omega)]
 have h0:0≤x%((2^64:Nat):Int):=Int.emod_nonneg _ (by decide)
 rw [Int.natCast_emod,Int.toNat_of_nonneg h0]
 exact Int.emod_emod_of_dvd x (Int.natCast_dvd_natCast.2 hd)
theorem and_15(x):bits .and .i64 x 15=x%16:=and_low_i64 x 4 (by decide) 15 rfl
theorem and_3(x):bits .and .i64 x 3=x%4:=and_low_i64 x 2 (by decide) 3 rfl
theorem and_31(x):bits .and .i64 x 31=x%32:=and_low_i64 x 5 (by decide) 31 rfl
theorem and_63(x):bits .and .i64 x 63=x%64:=and_low_i64 x 6 (by decide) 63 rfl
theorem rem_pos(x n:Int)(hn:0<n):(x.tmod n+n).tmod n=x%n:=by
 have h1: -n<x.tmod n:=Int.lt_tmod_of_pos x hn
 rw [Int.tmod_eq_emod_of_nonneg (by omega)]
 rw [Int.add_emod_right]
 exact Int.emod_eq_emod_iff_emod_sub_eq_zero.2 (by
  have h2:=Int.tmod_add_mul_tdiv x n
  rw [show x.tmod n-x= -(n*x.tdiv n) by omega]
  rw [←Int.mul_neg]
  exact Int.mul_emod_right n _)
theorem results_x1{fn:Func}{a}(h:fn.results= #[.cell a 48])(tmps:Array Value)(w b)(x:XI)(hS:XB w b x)(ha:tmps.getD a undef= .pointer (some ⟨b,0,none⟩)):
  (results fn tmps).run prog w= .ok x.agg w:=by
 have hl:=run_loadVar_mid w b 0 48 x.cells _ hS.cells underlying48 rfl (XI.info x)
 have ha':tmps[a]?.getD undef= .pointer (some ⟨b,0,none⟩):=by rw [←Array.getD_eq_getD_getElem?];exact ha
 have e:(.agg x.cells.toArray:Value)=x.agg:=rfl
 rw [e] at hl
 simp [results,h,ha',hl,asAddr]
structure StX(w0:World)(x u y:XI)(w:World):Prop where
 fr:Fr No w0 w
 x:XB w w0.heap.size x
 res:XB w (w0.heap.size+1) u
 y:XB w (w0.heap.size+1+1) y
theorem StX.start(w:World)(x y:XI)(t1 t2 t3 n):StX w x XI.zero y ((((w.alloc (.cells x.cells.toArray t1)).alloc (.cells XI.zero.cells.toArray t2)).drewN n).alloc (.cells y.cells.toArray t3)):=by
 obtain ⟨W1,hW1⟩:∃W1,W1=w.alloc (.cells x.cells.toArray t1):=⟨_,rfl⟩
 obtain ⟨W2,hW2⟩:∃W2,W2=W1.alloc (.cells XI.zero.cells.toArray t2):=⟨_,rfl⟩
 have z1:W1.heap.size=w.heap.size+1:=by rw [hW1,size_alloc]
 have z2:(W2.drewN n).heap.size=w.heap.size+1+1:=by show W2.heap.size=_;rw [hW2,size_alloc,z1]
 have c1:XB W1 w.heap.size x:=by rw [hW1];exact XB.new w _ _
 have c2:XB W2 (w.heap.size+1) XI.zero:=by rw [hW2,←z1];exact XB.new W1 _ _
 have f1:Fr No w W1:=by rw [hW1];exact fr_alloc _ _
 have f2:Fr No W1 W2:=by rw [hW2];exact fr_alloc _ _
 have f3:Fr No W2 ((W2.drewN n).alloc (.cells y.cells.toArray t3)):=((Fr.refl No W2).drewN n).trans (fr_alloc _ _)
 rw [←hW1,←hW2]
 exact ⟨f1.trans (f2.trans f3),c1.fr (f2.trans f3) id,c2.fr f3 id,by rw [←z2];exact XB.new _ _ _⟩
theorem StX.answer{w0 w:World}{x u y}(h:StX w0 x u y w){v:XI}{ops rest}{op:Oper}{a:Act}{Q}(hgd:op.guard=none)(px py)(ho:op.op= .store 48 px py)(hx:a.eval px= .pointer (some ⟨w0.heap.size+1,0,none⟩))(hy:a.eval py=v.agg)(k:∀W',Hid (StX w0 x v y W')→wpList prog ops Q rest (a.put op.dst undef) W'):wpList prog ops Q (op::rest) a w:=
 h.res.store hgd px py ho hx hy fun W' h1 h2=>k W' ⟨(h.fr.any.trans (h2.mono fun k _ hk=>by show w0.heap.size≤k;omega):Fr (From w0) w0 W').ours,h.x.fr h2 (by omega),h1,h.y.fr h2 (by omega)⟩
end Go.Proofs.YtfmcmfiebehhiaaGreatDoor
namespace Go.Proofs.YtfmcmfiebehhiaaGreatDoor
open Go.Proofs.Tryz
open Go.RowKit
def mixC(h:Nat→Option Value):List (Nat×Nat×Value)→List Value→List Value
 | [],L=>L
 |x::r,L=>mixC h r (if (h x.1).isSome then L.set x.2.1 x.2.2 else L)
def doneC:List (Nat×Nat×Value)→List Value→List Value
 | [],L=>L
 |x::r,L=>doneC r (L.set x.2.1 x.2.2)
theorem mixC_len(h:Nat→Option Value):∀(st:List (Nat×Nat×Value)) (L:List Value),(mixC h st L).length=L.length
 | [],_=>rfl
 |x::r,L=>by
  unfold mixC
  rw [mixC_len h r]
  split
  ·rw [List.length_set]
  ·rfl
theorem mixC_none:∀(st:List (Nat×Nat×Value)) (L:List Value),mixC (fun _=>none) st L=L
 | [],_=>rfl
 |x::r,L=>by
  unfold mixC
  exact mixC_none r L
theorem mixC_set(h:Nat→Option Value)(j v):∀(st:List (Nat×Nat×Value)) (L:List Value),(∀x∈st,x.2.1≠j)→mixC h st (L.set j v)=(mixC h st L).set j v
 | [],_,_=>rfl
 |x::r,L,hn=>by
  unfold mixC
  rw [←mixC_set h j v r _ (fun y hy=>hn y (List.mem_cons_of_mem _ hy))]
  have:=hn x List.mem_cons_self
  split
  ·rw [List.set_comm _ _ (fun e=>this e.symm)]
  ·rfl
theorem mixC_other(h:Nat→Option Value)(k u):∀(st:List (Nat×Nat×Value)) (L:List Value),(∀x∈st,x.1≠k)→mixC (setH h k u) st L=mixC h st L
 | [],_,_=>rfl
 |x::r,L,hn=>by
  unfold mixC
  rw [setH_ne (hn x List.mem_cons_self),mixC_other h k u r _ (fun y hy=>hn y (List.mem_cons_of_mem _ hy))]
def okStC(n:Nat):List (Nat×Nat×Value)→Bool
 | []=>true
 |x::r=>decide (x.2.1<n)&&(r.all fun y=>decide (y.1≠x.1)&&decide (y.2.1≠x.2.1))&&okStC n r
theorem mixC_done(h:Nat→Option Value){n k j v}(u)(hk:h k=none):∀(st:List (Nat×Nat×Value)) (L:List Value),okStC n st=true→(k,j,v)∈st→mixC (setH h k u) st L=(mixC h st L).set j v∧j<n
 |x::r,L,hok,hm=>by
  unfold okStC at hok
  simp only [Bool.and_eq_true,decide_eq_true_eq,List.all_eq_true] at hok
  obtain ⟨⟨h1,h2⟩,h3⟩:=hok
  unfold mixC
  rcases List.mem_cons.1 hm with e|hr
  ·subst e
   refine ⟨?_,h1⟩
   rw [setH_same,hk,mixC_other h k u r _ (fun y hy=>(h2 y hy).1)]
   exact mixC_set h j v r L (fun y hy=>(h2 y hy).2)
  ·rw [setH_ne (fun e=>(h2 _ hr).1 e.symm)]
   exact mixC_done h u hk r _ h3 hr
theorem mixC_all(h:Nat→Option Value):∀(st:List (Nat×Nat×Value)) (L:List Value),(∀x∈st,(h x.1).isSome=true)→mixC h st L=doneC st L
 | [],_,_=>rfl
 |x::r,L,hn=>by
  unfold mixC doneC
  rw [if_pos (hn x List.mem_cons_self),mixC_all h r _ (fun y hy=>hn y (List.mem_cons_of_mem _ hy))]
section
variable {P:Program} {ops:Array Oper} {Q:Exit→Act→World→Prop}
structure PutS(w:World)(b:Nat)(L:List Value)(W:World):Prop where
 fr:Fr (fun k=>k=b) w W
 cells:CellsAt W b 0 L
 open_:∀j,W.frozen? ⟨b,j,none⟩=false
theorem PutS.put{w W:World}{b}{L:List Value}(h:PutS w b L W){j}(hj:j<L.length)(v):PutS w b (L.set j v) (W.setCell ⟨b,j,none⟩ v):=
 ⟨h.fr.setCell (p:=⟨b,j,none⟩) (.inr rfl) _,h.cells.set1 hj v,fun i=>by rw [World.frozen?_setCell];exact h.open_ i⟩
theorem wp_region_fields{id}{a:Act}{w:World}(base:List (Tmp×Value))(C:List (Option Value))(b)(L:List Value)(st:List (Nat×Nat×Value))(hm:P.follows .mixedOrders=true)(hok:okOpsM ops=true)(hok1:okDst ops a.tmps.size=true)(hok2:okBase ops (base.map (·.1))=true)(hbase:Vals a base)(hL:CellsAt w b 0 L)(hO:∀j,w.frozen? ⟨b,j,none⟩=false)(hst:okStC L.length st=true)(hin:(st.all fun x=>decide (x.1<ops.size)&&(C.getD x.1 none).isNone)=true)(hpure:∀(i:Nat) (o:Oper) (c:Value),ops[i]? =some o→C.getD i none=some c→∀h (a:Act) W,Fr (fun k=>k=b) w W→(∀k∈preOf ops i,Filled ops C h a k)→Vals a base→(execOp a.eval o).run P W= .ok (.value c) W)(hstore:∀(i:Nat) (o:Oper),ops[i]? =some o→C.getD i none=none→∃j v,(i,j,v)∈st∧∀h (a':Act) (W:World) (old:Value),W.cell? ⟨b,j,none⟩=some old→W.frozen? ⟨b,j,none⟩=false→(∀k∈preOf ops i,Filled ops C h a' k)→Vals a' base→(execOp a'.eval o).run P W= .ok .skip (W.setCell ⟨b,j,none⟩ v))(hfin:∀(V:Nat→Value) W,(∀k c,k<ops.size→C.getD k none=some c→V k=c)→PutS w b (doneC st L) W→Q .normal (putsM ops V (List.range ops.size) a) W):(Code.region id ops true).wp P Q a w:=by
 refine wp_region_made base C (fun h W=>PutS w b (mixC h st L) W) hm hok hok1 hok2 hbase ⟨(Fr.refl _ _).drew,by rw [mixC_none];exact hL,hO⟩ ?_ ?_ ?_
 ·intro i o c ho hc h a' W hS hpre hb
  exact hpure i o c ho hc h a' W hS.fr hpre hb
 ·intro i o ho hc h a' W _ hi hS hpre hb
  obtain ⟨j,v,hmem,hrun⟩:=hstore i o ho hc
  obtain ⟨e,hj⟩:=mixC_done h undef hi st L hst hmem
  have hj2:j<(mixC h st L).length:=by rw [mixC_len];exact hj
  have hold:=hS.cells j _ (List.getElem?_eq_getElem hj2)
  rw [Nat.zero_add] at hold
  have hr:=hrun h a' W _ hold (hS.open_ j) (fun k hk=>(hpre k hk).1) hb
  unfold Oper.wp
  rw [hr]
  exact ⟨undef,rfl,by rw [e];exact hS.put hj2 v⟩
 ·intro h V W hV hS
  refine hfin V W (fun k c hk hc=> ?_) ?_
  ·have:=hV k hk
   unfold slotV at this
   rw [hc] at this
   exact (Option.some.inj this).symm
  ·rw [mixC_all h st L (fun x hx=> ?_)] at hS
   ·exact hS
   ·have hx2:=List.all_eq_true.1 hin x hx
    simp only [Bool.and_eq_true,decide_eq_true_eq,Option.isNone_iff_eq_none] at hx2
    have:=hV x.1 hx2.1
    unfold slotV at this
    rw [hx2.2] at this
    rw [show h x.1=some (V x.1) from this]
    rfl
end
theorem wp_then_of{P}{s:Code}{Q a w}(h:∀K:Act→World→Prop,K=(fun a w=>Q .normal a w)→s.wp P (Exit.then K Q) a w):s.wp P Q a w:=by
 refine wp_mono (h _ rfl) ?_
 intro e a' w' hq
 cases e<;>exact hq
section
variable {P:Program} {A:Act} {W:World}
theorem do_store1{x y v u w' t}{d:Option Tmp}{ty pos af}{g:Option (Nat×Bool)}(hx:A.eval x=v)(hy:A.eval y=u)(hr:(Instr.storeAt t v u).run P W= .ok () w'):(execOp A.eval ⟨d, .store t x y,ty,pos,af,g⟩).run P W= .ok .skip w':=by
 simp [execOp,hx,hy,hr,Result.andThen]
end
end Go.Proofs.YtfmcmfiebehhiaaGreatDoor
namespace Go.Proofs.YtfmcmfiebehhiaaGreatDoor
open Go.Proofs.Tryz
open Go.RowKit
section
variable {P:Program} {ops:Array Oper} {Q:Exit→Act→World→Prop}
def CalmS(ops:Array Oper)(C:List (Option Value))(M:Nat→Value→World→Prop)(a:Act)(W:World)(k:Nat):Prop:=
 ∃v,(∀c,C.getD k none=some c→v=c)∧(C.getD k none=none→M k v W)∧∀d,dstOf ops k=some d→a.tmps[d]? =some v
def CalmQ(C:List (Option Value))(M:Nat→Value→World→Prop)(i:Nat)(o:Oper)(a:Act)(W:World)(a2:Act)(w':World):Prop:=
 ∃v,a2=a.put o.dst v∧Fr No W w'∧(∀c,C.getD i none=some c→v=c)∧(C.getD i none=none→M i v w')
theorem wp_region_calm{id}{a:Act}{w}(base:List (Tmp×Value))(C:List (Option Value))(M:Nat→Value→World→Prop)(hM:∀k v W W',M k v W→Fr No W W'→M k v W')(hm:P.follows .mixedOrders=true)(hok:okOpsM ops=true)(hok1:okDst ops a.tmps.size=true)(hok2:okBase ops (base.map (·.1))=true)(hbase:Vals a base)(hop:∀(i:Nat) (o:Oper),ops[i]? =some o→∀(a':Act) W,a'.defers=a.defers→Fr No w W→(∀k∈preOf ops i,CalmS ops C M a' W k)→Vals a' base→Oper.wp P o a' W (CalmQ C M i o a' W) Q)(hfin:∀(V:Nat→Value) W,(∀k c,k<ops.size→C.getD k none=some c→V k=c)→Fr No w W→Q .normal (putsM ops V (List.range ops.size) a) W):(Code.region id ops true).wp P Q a w:=by
 refine wp_region_made base [] (fun h W=>Fr No w W∧∀k v,h k=some v→(∀c,C.getD k none=some c→v=c)∧(C.getD k none=none→M k v W)) hm hok hok1 hok2 hbase ⟨(Fr.refl _ _).drew,fun k v h=>by cases h⟩ ?_ ?_ ?_
 ·intro i o c ho hc
  simp at hc
 ·intro i o ho _ h a' W hd hi hS hpre hb
  refine Oper.wp_mono ?_ (hop i o ho a' W hd hS.1 (fun k hk=> ?_) hb)
  ·rintro a2 w' ⟨v,he,hf,h1,h2⟩
   refine ⟨v,he,hS.1.trans hf,fun k u hk=> ?_⟩
   by_cases e:k=i
   ·subst e
    rw [setH_same] at hk
    obtain rfl:=Option.some.inj hk
    exact ⟨h1,h2⟩
   ·rw [setH_ne e] at hk
    obtain ⟨g1,g2⟩:=hS.2 k u hk
    exact ⟨g1,fun hn=>hM _ _ _ _ (g2 hn) hf⟩
  ·obtain ⟨v,hv⟩:=(hpre k hk).2 (by simp)
   obtain ⟨g1,g2⟩:=hS.2 k v hv
   refine ⟨v,g1,g2,fun d hd=> ?_⟩
   obtain ⟨u,h1,h2⟩:=(hpre k hk).1 d hd
   have:slotV ([]:List (Option Value)) h k=h k:=by unfold slotV;simp
   rw [this,hv] at h1
   rw [h2,←Option.some.inj h1]
 ·intro h V W hV hS
  refine hfin V W (fun k c hk hc=> ?_) hS.1
  have hv:h k=some (V k):=by
   have:=hV k hk
   unfold slotV at this
   simpa using this
  exact (hS.2 k _ hv).1 c hc
variable {C:List (Option Value)} {M:Nat→Value→World→Prop} {a:Act} {W:World} {i:Nat}
theorem calm_made(hpre:∀k∈preOf ops i,CalmS ops C M a W k)(k d:Nat)(hk:(preOf ops i).contains k=true)(hd:dstOf ops k=some d)(hc:C.getD k none=none):∃v,M k v W∧a.eval (.tmp d)=v:=by
 obtain ⟨v,_,h2,h3⟩:=hpre k (by simpa using hk)
 exact ⟨v,h2 hc,evalT (h3 d hd)⟩
theorem calm_pure{o c}(h:(execOp a.eval o).run P W= .ok (.value c) W)(hc:C.getD i none=some c):Oper.wp P o a W (CalmQ C M i o a W) Q:=by
 unfold Oper.wp
 rw [h]
 exact ⟨c,rfl,Fr.refl _ _,fun c' h'=>by rw [hc] at h';exact Option.some.inj h',fun hn=>by rw [hc] at hn;cases hn⟩
theorem calm_make{o v W'}(h:(execOp a.eval o).run P W= .ok (.value v) W')(hf:Fr No W W')(hc:C.getD i none=none)(hm:M i v W'):Oper.wp P o a W (CalmQ C M i o a W) Q:=by
 unfold Oper.wp
 rw [h]
 exact ⟨v,rfl,hf,fun c' h'=>(by rw [hc] at h';cases h'),fun _=>hm⟩
theorem calm_call{o f args c}(h:(execOp a.eval o).run P W= .ok (.enter f args) W)(hc:C.getD i none=some c)(hcall:Calls P f args W fun e w'=>e= .returned c∧Fr No W w'):Oper.wp P o a W (CalmQ C M i o a W) Q:=by
 unfold Oper.wp
 rw [h]
 refine Calls.mono hcall ?_
 rintro e w' ⟨rfl,hf⟩
 exact ⟨c,rfl,hf,fun c' h'=>by rw [hc] at h';exact Option.some.inj h',fun hn=>by rw [hc] at hn;cases hn⟩
theorem evalF(f):a.eval (.func f)= .func (.func f) #[] #[]:=rfl
theorem do_enter{f}{args:Array Operand}{vs t}{d:Option Tmp}{ty pos af}{g:Option (Nat×Bool)}(hv:args.map a.eval=vs)(hf:(callFunc f vs).run P W= .ok (.enter f vs) W):
  (execOp a.eval ⟨d, .call {callee:= .value (.func f),args:=args,argTypes:=t},ty,pos,af,g⟩).run P W= .ok (.enter f vs) W:=by
 subst hv
 simp only [execOp,resolve]
 simp [evalF,Deferred.ofValue,invoke,hf]
end
end Go.Proofs.YtfmcmfiebehhiaaGreatDoor
namespace Go.Proofs.YtfmcmfiebehhiaaGreatDoor
open Go.Proofs.Tryz
open Go.RowKit
theorem rone_any(L:List Int)(g off n c x w)(hc:CellsAt w g off (L.map (Value.int .i64)))(hn:L.length=n)(hm:n≤1000000):
  Calls prog 81 #[.int .i64 x, .slice (some ⟨g,off,none⟩) n c] w fun e w'=>e= .returned (.bool (oneM x L))∧Fr No w w':=by
 have HC:=Lib.hid hc
 have HN:=Lib.hid hn
 have HO:Hid (oneM x L=geJ (L.findIdx? (·==x))):=contains_idxJ L x
 rw [HO.out]
 clear hc hn HO
 go_enter func81,ntmps81
 go_wp2_with fail
 go_loopw [5] (fun i wr=>∃k:Nat,k≤n∧i= .int .i64 k∧Hid (Fr No w wr)∧Hid (∀(j:Nat) z,j<k→L[j]? =some z→z≠x)) (fun i _=>n-(intOf i).toNat)
 case atStart=>exact ⟨0,Nat.zero_le _,rfl,Fr.refl _ _,fun j _ h=>absurd h (Nat.not_lt_zero _)⟩
 case round=>
  obtain ⟨k,hk,rfl,HF,HJ⟩:=hrel
  by_cases hlt:k<n
  ·obtain ⟨z,hz⟩:∃z,L[k]? =some z:=⟨L[k]'(by rw [HN.out];exact hlt),List.getElem?_eq_getElem _⟩
   have k0:=i64J_cell (HF.out.cells HC.out id) hz
   have HX:=Lib.hid hz
   clear hz
   by_cases hx:z=x
   ·have HFI:Hid (L.findIdx? (·==x)=some k):=index_atJ L z x k HX.out HJ.out hx
    have q:(x==z)=true:=by rw [beq_iff_eq];exact hx.symm
    have q':(z==x)=true:=by rw [beq_iff_eq];exact hx
    clear hx
    go_wp2_with fail
    go_ret
    exact ⟨by rw [HFI.out];rfl,HF.out⟩
   ·have HJ2:Hid (∀(j:Nat) y,j<k+1→L[j]? =some y→y≠x):=fun j y hj hy=>by
     by_cases e:j=k
     ·subst e
      rw [HX.out] at hy
      obtain rfl:=Option.some.inj hy
      exact hx
     ·exact HJ.out j y (by omega) hy
    have q:(x==z)=false:=by rw [beq_eq_false_iff_ne];exact Ne.symm hx
    have q':(z==x)=false:=by rw [beq_eq_false_iff_ne];exact hx
    clear hx
    go_wp2_with fail
    go_roundw
    case rel=>exact ⟨k+1,by omega,by go_num,HF.out,HJ2⟩
    case measure=>simp [intOf]<;>omega
  ·obtain rfl:k=n:=by omega
   have HFI:Hid (L.findIdx? (·==x)=none):=Lib.hid (by
    rw [List.findIdx?_eq_none_iff]
    intro y hy
    obtain ⟨j,hj,rfl⟩:=List.getElem_of_mem hy
    have:=HJ.out j _ (by rw [←HN.out];exact hj) (List.getElem?_eq_getElem hj)
    simpa using this)
   go_wp2_with fail
   go_ret
   exact ⟨by rw [HFI.out];rfl,HF.out⟩
theorem ralu_any(n w):Calls prog 78 #[.int .i64 n] w fun e w'=>e= .returned (.bool (oneM n [0,1,4,5,6,7]))∧Fr No w w':=by
 have HB:Hid (∀W:World,Calls prog 81 #[.int .i64 n, .slice (some ⟨W.heap.size,0,none⟩) 6 6] (W.alloc (.cells #[.int .i64 0, .int .i64 1, .int .i64 4, .int .i64 5, .int .i64 6, .int .i64 7] 3)) fun e w'=>e= .returned (.bool (oneM n [0,1,4,5,6,7]))∧Fr No (W.alloc (.cells #[.int .i64 0, .int .i64 1, .int .i64 4, .int .i64 5, .int .i64 6, .int .i64 7] 3)) w'):=fun W=>rone_any _ _ _ _ _ _ _ (CellsAt.new W [.int .i64 0, .int .i64 1, .int .i64 4, .int .i64 5, .int .i64 6, .int .i64 7] _) rfl (by decide)
 generalize oneM n [0,1,4,5,6,7]=r at*
 go_enter func78,ntmps78
 go_wp2_with (go_at_call 81;(with_reducible refine (HB.out _).mono ?_);rintro e w' ⟨rfl,hf⟩)
 go_ret
 exact ⟨rfl,(fr_alloc _ _).trans hf⟩
theorem rshift_any(n w):Calls prog 80 #[.int .i64 n] w fun e w'=>e= .returned (.bool (oneM n [4,5,7]))∧Fr No w w':=by
 have HB:Hid (∀W:World,Calls prog 81 #[.int .i64 n, .slice (some ⟨W.heap.size,0,none⟩) 3 3] (W.alloc (.cells #[.int .i64 4, .int .i64 5, .int .i64 7] 3)) fun e w'=>e= .returned (.bool (oneM n [4,5,7]))∧Fr No (W.alloc (.cells #[.int .i64 4, .int .i64 5, .int .i64 7] 3)) w'):=fun W=>rone_any _ _ _ _ _ _ _ (CellsAt.new W [.int .i64 4, .int .i64 5, .int .i64 7] _) rfl (by decide)
 generalize oneM n [4,5,7]=r at*
 go_enter func80,ntmps80
 go_wp2_with (go_at_call 81;(with_reducible refine (HB.out _).mono ?_);rintro e w' ⟨rfl,hf⟩)
 go_ret
 exact ⟨rfl,(fr_alloc _ _).trans hf⟩
theorem rcond_any(n w):Calls prog 82 #[.int .i64 n] w fun e w'=>e= .returned (.bool (oneM n condsL))∧Fr No w w':=by
 have HB:Hid (∀W:World,Calls prog 81 #[.int .i64 n, .slice (some ⟨W.heap.size,0,none⟩) 10 10] (W.alloc (.cells #[.int .i64 2, .int .i64 3, .int .i64 4, .int .i64 5, .int .i64 6, .int .i64 7, .int .i64 12, .int .i64 13, .int .i64 14, .int .i64 15] 3)) fun e w'=>e= .returned (.bool (oneM n condsL))∧Fr No (W.alloc (.cells #[.int .i64 2, .int .i64 3, .int .i64 4, .int .i64 5, .int .i64 6, .int .i64 7, .int .i64 12, .int .i64 13, .int .i64 14, .int .i64 15] 3)) w'):=fun W=>rone_any _ _ _ _ _ _ _ (CellsAt.new W condsC _) rfl (by decide)
 generalize oneM n condsL=r at*
 go_enter func82,ntmps82
 go_wp2_with (go_at_call 81;(with_reducible refine (HB.out _).mono ?_);rintro e w' ⟨rfl,hf⟩)
 go_ret
 exact ⟨rfl,(fr_alloc _ _).trans hf⟩
theorem rreg_any(n w):Calls prog 83 #[.int .i64 n] w fun e w'=>e= .returned (.bool (regB n))∧w=w':=by
 by_cases h1:(0:Int)≤n
 ·by_cases h2:n<16
  ·have HR:Hid (regB n=true):=by refine Lib.hid ?_;unfold regB;simp [h1,h2]
   rw [HR.out]
   go_enter func83,ntmps83
   go_wp2
   go_ret
   exact ⟨rfl,rfl⟩
  ·have HR:Hid (regB n=false):=by refine Lib.hid ?_;unfold regB;simp [h1,h2]
   rw [HR.out]
   go_enter func83,ntmps83
   go_wp2
   go_ret
   exact ⟨rfl,rfl⟩
 ·have HR:Hid (regB n=false):=by refine Lib.hid ?_;unfold regB;simp [h1]
  rw [HR.out]
  have h1':n<0:=by omega
  go_enter func83,ntmps83
  go_wp2
  go_ret
  exact ⟨rfl,rfl⟩
theorem rword_any(n w):Calls prog 79 #[.int .i64 n] w fun e w'=>e= .returned (.bool (wordB n))∧w=w':=by
 by_cases h1:(-2147483648:Int)≤n
 ·by_cases h2:n≤2147483647
  ·have HR:Hid (wordB n=true):=by refine Lib.hid ?_;unfold wordB;simp [h1,h2]
   rw [HR.out]
   go_enter func79,ntmps79
   go_wp2
   go_ret
   exact ⟨rfl,rfl⟩
  ·have HR:Hid (wordB n=false):=by refine Lib.hid ?_;unfold wordB;simp [h1,h2]
   rw [HR.out]
   go_enter func79,ntmps79
   go_wp2
   go_ret
   exact ⟨rfl,rfl⟩
 ·have HR:Hid (wordB n=false):=by refine Lib.hid ?_;unfold wordB;simp [h1]
  rw [HR.out]
  have h1':n< -2147483648:=by omega
  go_enter func79,ntmps79
  go_wp2
  go_ret
  exact ⟨rfl,rfl⟩
end Go.Proofs.YtfmcmfiebehhiaaGreatDoor

