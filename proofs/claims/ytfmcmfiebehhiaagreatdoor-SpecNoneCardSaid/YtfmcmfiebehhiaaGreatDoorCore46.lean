/- The listed variables of chapter 13: what a row's condition gives; a world that meets it. -/
import Derived.Test.YtfmcmfiebehhiaaGreatDoorCore16
import Derived.Test.YtfmcmfiebehhiaaGreatDoorCore45
import Derived.Test.YtfmcmfiebehhiaaGreatDoorRows
import Derived.ProofKit
import Derived.LaidMore
import Derived.OpenShut
import Derived.Stop.Joined
import Derived.Lib.LaidU8T
import Derived.PinnedBridge
import Derived.HandedShaped
import Derived.RowKitVeiled
set_option linter.all false
set_option linter.unusedVariables false
set_option linter.unusedSimpArgs false
set_option maxRecDepth 100000
namespace Go.Proofs.YtfmcmfiebehhiaaGreatDoor
open Go.Proofs.Tryz
open Go.ChangeShapes Go.WideShapes Go.ChangeAt Go.WideMaps Go.WideElems Go.RowKit
def laidMc:List (String×DataW Unit):= [("firewall/codec.forms",Rows.laid_firewall_codec_forms),("firewall/codec.loads",Rows.laid_firewall_codec_loads),("firewall/codec.stores",Rows.laid_firewall_codec_stores),("firewall/codec.conds",Rows.laid_firewall_codec_conds),("firewall/cpu.does",Rows.laid_firewall_cpu_does),("firewall/cpu.shifts",Rows.laid_firewall_cpu_shifts),("firewall/helpers.args",Rows.laid_firewall_helpers_args),("firewall/machine.touches",Rows.laid_firewall_machine_touches),("firewall/machine.lost",Rows.laid_firewall_machine_lost)]
def laidMp:List (String×DataW Unit):= [("firewall/codec.forms",Rows.laid_firewall_codec_forms),("firewall/codec.loads",Rows.laid_firewall_codec_loads),("firewall/codec.stores",Rows.laid_firewall_codec_stores),("firewall/codec.conds",Rows.laid_firewall_codec_conds),("firewall/cpu.does",Rows.laid_firewall_cpu_does),("firewall/cpu.shifts",Rows.laid_firewall_cpu_shifts),("firewall/helpers.args",Rows.laid_firewall_helpers_args),("firewall/machine.lost",Rows.laid_firewall_machine_lost)]
theorem mach_met(os args):laidMetH prog laidMc ((World.doorLaid prog 1000 os).forCall (fun _ _=>0) ⟨#[],args, []⟩).memory:=
 laidMetH_of_parts3 (fuel:=8) (laidMet_of_run' 8 (by kernel_rfl) (by kernel_rfl)) (by kernel_rfl) (by kernel_rfl)
def FI.dat(f:FI):DataW Unit:= .agg [.lit (.string f.op), .lit (.int .i64 f.behind), .lit (.int .i64 f.digit), .lit (.int .i64 f.alu), .lit (.int .i64 f.imm), .lit (.bool f.wide), .lit (.bool f.narrow)]
section
variable {W:World} {base:Nat} {sp:Nat→Bool} {held:Bool}
theorem str_cell{fuel cs p s}(h:DataW.trod (fun _=>()) prog W base sp held fuel 9 cs=some (.lit (.string s),p)):cs= [.string (bA' s)]:=by
 obtain ⟨b,rfl,e,_⟩:=DataW.trod_string underlying9 h
 simp only [Prod.mk.injEq,DataW.lit.injEq,Lit.string.injEq] at e
 rw [e.1]
 rfl
theorem int_cell{t k}(ht:prog.underlying t=some (.int k)){fuel cs p n}(h:DataW.trod (fun _=>()) prog W base sp held fuel t cs=some (.lit (.int k n),p)):cs= [.int k n]:=by
 obtain ⟨m,rfl,e,_⟩:=DataW.trod_int ht h
 simp only [Prod.mk.injEq,DataW.lit.injEq,Lit.int.injEq,true_and] at e
 rw [e.1]
theorem bool_cell{fuel cs p n}(h:DataW.trod (fun _=>()) prog W base sp held fuel 4 cs=some (.lit (.bool n),p)):cs= [.bool n]:=by
 obtain ⟨m,rfl,e⟩:=DataW.trod_bool underlying4 h
 simp only [Prod.mk.injEq,DataW.lit.injEq,Lit.bool.injEq] at e
 rw [e.1]
theorem form_cells{fuel cs p}{f:FI}(h:DataW.trod (fun _=>()) prog W base sp held fuel 202 cs=some (f.dat,p)):cs=f.cells:=by
 obtain ⟨xs,n,_,ex,hl,hlen,hf⟩:=DataW.trod_struct underlying202 h
 have c7:prog.cellsOf 202=7:=by kernel_rfl
 have cs1:prog.cellsOf 9=1:=by kernel_rfl
 have ci1:prog.cellsOf 3=1:=by kernel_rfl
 have cb1:prog.cellsOf 4=1:=by kernel_rfl
 rw [c7] at hl
 have hlen:xs.length=7:=hlen
 match cs,hl,xs,hlen with
 | [c0,c1,c2,c3,c4,c5,c6],_, [y0,y1,y2,y3,y4,y5,y6],_=>
  have g0:=hf 0 _ rfl
  have g1:=hf 1 _ rfl
  have g2:=hf 2 _ rfl
  have g3:=hf 3 _ rfl
  have g4:=hf 4 _ rfl
  have g5:=hf 5 _ rfl
  have g6:=hf 6 _ rfl
  simp only [cs1,ci1,cb1,List.drop_zero,List.drop_succ_cons,List.take_succ_cons,List.take_zero,List.getElem?_cons_zero,List.getElem?_cons_succ] at g0 g1 g2 g3 g4 g5 g6
  simp only [FI.dat,List.map_cons,List.map_nil,Prod.mk.injEq,DataW.agg.injEq,List.cons.injEq,and_true] at ex
  obtain ⟨⟨e0,e1,e2,e3,e4,e5,e6⟩,_⟩:=ex
  obtain ⟨d0,p0⟩:=y0;obtain ⟨d1,p1⟩:=y1;obtain ⟨d2,p2⟩:=y2;obtain ⟨d3,p3⟩:=y3;obtain ⟨d4,p4⟩:=y4;obtain ⟨d5,p5⟩:=y5;obtain ⟨d6,p6⟩:=y6
  subst e0 e1 e2 e3 e4 e5 e6
  have k0:=str_cell g0
  have k1:=int_cell underlying3 g1
  have k2:=int_cell underlying3 g2
  have k3:=int_cell underlying3 g3
  have k4:=int_cell underlying3 g4
  have k5:=bool_cell g5
  have k6:=bool_cell g6
  cases k0;cases k1;cases k2;cases k3;cases k4;cases k5;cases k6
  rfl
theorem cells_of_agg{α:Type}{fuel n m:Nat}{t e:TypeId}{cs:List Value}{L:List α}{dat:α→DataW Unit}{cells:α→List Value}{p:List MemPlace}(ht:prog.underlying t=some (.array n e))(hce:prog.cellsOf e=m)(hcl:∀a∈L,(cells a).length=m)
  (hone:∀(fuel:Nat) (cs:List Value) (p:List MemPlace) (a:α),DataW.trod (fun _=>()) prog W base sp held fuel e cs=some (dat a,p)→cs=cells a)
  (h:DataW.trod (fun _=>()) prog W base sp held fuel t cs=some (.agg (L.map dat),p)):∀(j:Nat) (u:Value),(L.flatMap cells)[j]? =some u→cs[j]? =some u:=by
 obtain ⟨xs,k,_,ex,hl0,hl,hel⟩:=DataW.trod_array ht h
 simp only [Prod.mk.injEq,DataW.agg.injEq] at ex
 have hxl:xs.length=L.length:=by
  have:=congrArg List.length ex.1
  simpa using this.symm
 have hpart:∀(i:Nat) (a:α),L[i]? =some a→(cs.drop (i*m)).take m=cells a:=by
  intro i a hi
  have hiL:i<L.length:=(List.getElem?_eq_some_iff.1 hi).1
  have hE:=hel i (by omega)
  rw [hce,List.getElem?_eq_getElem (by omega)] at hE
  have e3:(xs.map (·.1))[i]? =(L.map dat)[i]? :=by rw [ex.1]
  rw [List.getElem?_map,List.getElem?_map,List.getElem?_eq_getElem (by omega:i<xs.length),hi] at e3
  simp only [Option.map_some,Option.some.injEq] at e3
  exact hone _ _ (xs[i]'(by omega)).2 a (by rw [hE,←e3])
 clear hel hl hl0 hxl ex
 have key:∀(L:List α) (o:Nat),(∀a∈L,(cells a).length=m)→(∀(i:Nat) (a:α),L[i]? =some a→(cs.drop (o+i*m)).take m=cells a)→∀(j:Nat) (u:Value),(L.flatMap cells)[j]? =some u→cs[o+j]? =some u:=by
  intro L
  induction L with
  |nil=>intro o _ _ j u hj;simp at hj
  |cons a L ih=>
   intro o hc hp j u hj
   rw [List.flatMap_cons] at hj
   have ha:=hc a List.mem_cons_self
   by_cases hjm:j<m
   ·rw [List.getElem?_append_left (by omega)] at hj
    have h0:=hp 0 a rfl
    rw [Nat.zero_mul,Nat.add_zero] at h0
    rw [←h0,List.getElem?_take_of_lt hjm,List.getElem?_drop] at hj
    exact hj
   ·rw [List.getElem?_append_right (by omega),ha] at hj
    have:=ih (o+m) (fun b hb=>hc b (List.mem_cons_of_mem _ hb)) (fun i b hi=>by
     have:=hp (i+1) b (by simpa using hi)
     rwa [show o+(i+1)*m=o+m+i*m by rw [Nat.succ_mul];omega] at this) (j-m) u hj
    rwa [show o+m+(j-m)=o+j by omega] at this
 intro j u hj
 have:=key L 0 hcl (fun i a hi=>by rw [Nat.zero_add];exact hpart i a hi) j u hj
 rwa [Nat.zero_add] at this
end
theorem reads_at{W:World}{n:String}{g t:Nat}{d:DataW Unit}(h:Lib.VarReads prog W n d)(hg:prog.globalNamed n=some g)(ht:(prog.globals[g]?).map (·.type)=some t):∃(cs:Array Value) (fuel:Nat) (p:List MemPlace),W.var? prog n=some cs∧DataW.trod (fun _=>()) prog W 0 (fun _=>true) false fuel t cs.toList=some (d,p):=by
 obtain ⟨g0,t0,cs,fuel,p,hg0,ht0,hv,hd⟩:=h
 obtain rfl:=Option.some.inj (hg.symm.trans hg0)
 obtain rfl:=Option.some.inj (ht.symm.trans ht0)
 exact ⟨cs,fuel,p,hv,hd⟩
theorem var_cells{W:World}{n g}{cs:Array Value}{vs}(hg:prog.globalNamed n=some g)(hv:W.var? prog n=some cs)(h:∀(j:Nat) (u:Value),vs[j]? =some u→cs.toList[j]? =some u):CellsAt W g 0 vs:=fun j u hj=>by
 rw [Nat.zero_add,World.var?_cell hg hv j,←Array.getElem?_toList]
 exact h j u hj
theorem map_var{W:World}{n:String}{g t k e:Nat}{R:Value→Option (DataW Unit×List MemPlace)}{D:List (Lit×DataW Unit)}(h:Lib.VarReads prog W n (.map D))(hg:prog.globalNamed n=some g)(ht:(prog.globals[g]?).map (·.type)=some t)(hu:prog.underlying t=some (.map k e))
  (hR:∀(m:Nat) (v:Value) z,elemAt (fun _=>()) prog W 0 (fun _=>true) false m e v=some z→R v=some z):VarMap W g k R (.map D):=by
 obtain ⟨cs,fuel,p,hv,hd⟩:=reads_at h hg ht
 rcases Go.WideElems.open_map hu hd with ⟨_,hx⟩|⟨bm,es,clock,m,rfl,hcs,hb,_,F,hx⟩
 ·cases hx
 simp only [Prod.mk.injEq] at hx
 have hcell:W.cell? ⟨g,0,none⟩=some (.map (some bm)):=by
  have:=World.var?_cell hg hv 0
  rw [Array.eq_one_of_toList hcs] at this
  simpa using this
 refine ⟨bm,es.size,hcell,?_⟩
 have:=World.ownsMap_of_fit hb F (fun x _ z hz=>hR m x.val z hz)
 rw [←hx.1] at this
 exact this
theorem elemAt_fnR{W base m sp v}{z:DataW (List UInt8)×List MemPlace}(h:elemAt (funcToken prog) prog W base sp true m 168 v=some z):fnR v=some z:=by
 unfold elemAt at h
 split at h
 ·rename_i hf
  obtain ⟨u,hc,hu,rfl⟩:=Go.RowKit.func_of_trod underlying168 h
  have e:v=u:=by
   cases v<;>simp [Value.formed,underlying168,Value.cells] at hf hc ⊢<;>exact hc
  subst e
  cases v<;>simp [IsFunc] at hu<;>rfl
 ·cases h
theorem mach_of_laid{W:World}(h:laidMetH prog laidMc W):MachAt W:=by
 have h8:laidMet prog laidMp W:=by
  have h2:=h
  unfold laidMetH at h2
  rw [show (laidMc.filter fun x=>x.2.handleName?.isSome)= [("firewall/machine.touches",Rows.laid_firewall_machine_touches)] from by kernel_rfl,show (laidMc.filter fun x=>x.2.handleName?.isNone)=laidMp from by kernel_rfl] at h2
  exact h2.1
 have at_:∀(i:Nat) {n:String} {d:DataW Unit},laidMp[i]? =some (n,d)→Lib.VarReads prog W n d:=fun i n d e=>Lib.laidMet.reads h8 (List.mem_of_getElem? e)
 obtain ⟨gt,tt,ct,ft,pt,hgt,htt,hvt,hdt⟩:=h.funcs (n:= "firewall/machine.touches") (d:=_) (show ("firewall/machine.touches",DataW.iface "func table" _)∈laidMc from List.mem_of_getElem? (i:=7) rfl)
 constructor
 ·obtain ⟨cs,fuel,p,hv,hd⟩:=reads_at (at_ 0 rfl) (by kernel_rfl:prog.globalNamed "firewall/codec.forms" =some 1) (by kernel_rfl:(prog.globals[1]?).map (·.type)=some 203)
  exact var_cells (by kernel_rfl) hv (cells_of_agg (m:=7) (L:=formsL) (dat:=FI.dat) (cells:=FI.cells) underlying203 (by kernel_rfl) (fun a _=>rfl) (fun _ _ _ _=>form_cells) hd)
 ·exact map_var (at_ 1 rfl) (by kernel_rfl) (by kernel_rfl) underlying213 (fun _ _ _ hz=>Go.elemAt_plainElem_string underlying9 hz)
 ·exact map_var (at_ 2 rfl) (by kernel_rfl) (by kernel_rfl) underlying213 (fun _ _ _ hz=>Go.elemAt_plainElem_string underlying9 hz)
 ·obtain ⟨cs,fuel,p,hv,hd⟩:=reads_at (at_ 3 rfl) (by kernel_rfl:prog.globalNamed "firewall/codec.conds" =some 3) (by kernel_rfl:(prog.globals[3]?).map (·.type)=some 175)
  obtain ⟨a,cap,hcs,_,hel⟩:=open_row underlying175 (by kernel_rfl) (show DataW.trod _ _ _ _ _ _ _ _ _=some (.slice (condsL.map fun z=> .lit (.int .i64 z)) [],p) from hd)
  have hcell:∀(i:Nat) (z:Int),condsL[i]? =some z→W.cell? (a.add i)=some (.int .i64 z):=by
   intro i z hz
   obtain ⟨v,n,q,hc,ht⟩:=hel i _ (by rw [List.getElem?_map,hz];rfl)
   have:=int_cell underlying3 ht
   rw [hc,List.cons.inj this|>.1]
  obtain ⟨b,off,spot⟩:=a
  have hspot:spot=none:=by simpa [Addr.add] using World.cell?_spot (hcell 0 2 rfl)
  subst hspot
  refine ⟨b,off,cap,?_,fun j u hj=> ?_⟩
  ·have:=World.var?_cell (by kernel_rfl:prog.globalNamed "firewall/codec.conds" =some 3) hv 0
   rw [Array.eq_one_of_toList hcs] at this
   simp at this
   exact this
  ·unfold condsC at hj
   rw [List.getElem?_map] at hj
   cases hz:condsL[j]? with
   |none=>rw [hz] at hj;cases hj
   |some z=>
    rw [hz] at hj
    obtain rfl:=Option.some.inj hj
    have hz2:=hcell j z hz
    by_cases j0:j=0
    ·subst j0;simpa [Addr.add] using hz2
    ·simpa [Addr.add,j0] using hz2
 ·exact map_var (at_ 4 rfl) (by kernel_rfl) (by kernel_rfl) underlying229 (fun _ _ _ hz=>elemAt_plainElem_int underlying5 hz)
 ·exact map_var (at_ 5 rfl) (by kernel_rfl) (by kernel_rfl) underlying229 (fun _ _ _ hz=>elemAt_plainElem_int underlying5 hz)
 ·exact map_var (at_ 6 rfl) (by kernel_rfl) (by kernel_rfl) underlying254 (fun _ _ _ hz=>elemAt_plainElem_int underlying3 hz)
 ·obtain rfl:=Option.some.inj ((by kernel_rfl:prog.globalNamed "firewall/machine.touches" =some 0).symm.trans hgt)
  obtain rfl:=Option.some.inj ((by kernel_rfl:(prog.globals[0]?).map (·.type)=some 169).symm.trans htt)
  have hdt:DataW.trod (funcToken prog) prog W 0 (fun _=>true) true ft 169 ct.toList=some (touchesD,pt):=hdt
  rcases Go.WideElems.open_map underlying169 hdt with ⟨_,hx⟩|⟨bm,es,clock,m,rfl,hcs,hb,_,F,hx⟩
  ·cases hx
  simp only [Prod.mk.injEq] at hx
  have hcell:W.cell? ⟨0,0,none⟩=some (.map (some bm)):=by
   have:=World.var?_cell hgt hvt 0
   rw [Array.eq_one_of_toList hcs] at this
   simpa using this
  refine ⟨bm,es.size,hcell,?_⟩
  have:=World.ownsMap_of_fit hb F (fun x _ z hz=>elemAt_fnR hz)
  rw [←hx.1] at this
  exact this
 ·obtain ⟨cs,fuel,p,hv,hd⟩:=reads_at (at_ 7 rfl) (by kernel_rfl:prog.globalNamed "firewall/machine.lost" =some 4) (by kernel_rfl:(prog.globals[4]?).map (·.type)=some 221)
  have:=var_cells (g:=4) (vs:=([1,2,6,7,8,9,10,11]:List Int).flatMap fun z=> [Value.int .i64 z]) (by kernel_rfl) hv (cells_of_agg (m:=1) (L:=([1,2,6,7,8,9,10,11]:List Int)) (dat:=fun z=> .lit (.int .i64 z)) (cells:=fun z=> [.int .i64 z]) underlying221 (by kernel_rfl) (fun a _=>rfl) (fun _ _ _ _=>int_cell underlying3) hd)
  exact this
end Go.Proofs.YtfmcmfiebehhiaaGreatDoor

