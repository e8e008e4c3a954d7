/- package spec: stale, a load that passes stores. -/
import Derived.Test.YtfmcmfiebehhiaaGreatDoorCore16
import Derived.Test.YtfmcmfiebehhiaaGreatDoorCore34
import Derived.Test.YtfmcmfiebehhiaaGreatDoorCore36
import Derived.Lib.ConvBytes
set_option linter.all false
set_option linter.unusedVariables false
set_option linter.unusedSimpArgs false
set_option maxRecDepth 100000
set_option maxHeartbeats 4000000
namespace Go.Proofs.YtfmcmfiebehhiaaGreatDoor
open Go.Proofs.Tryz
open Go.RowKit
theorem load_valid{x:XI}(hv:validM x=true)(hk:x.kind=13):x.size≤8∧0≤x.dst∧x.dst≤15:=by
 obtain ⟨d,s,e1,e2,h1,h2⟩:=valid_regs hv
 refine ⟨?_,by omega,by omega⟩
 have hb:(formM 13).behind=5∨(formM 13).behind=6:=by decide
 have ha:(formM 13).alu≠1∧(formM 13).alu≠2:=by decide
 unfold validM at hv
 rw [hk] at hv
 rw [if_neg (by decide)] at hv
 simp only at hv
 split at hv
 ·cases hv
 ·try rw [if_neg ha.1,if_neg ha.2,if_pos hb] at hv
  have h3:(!(loadsM x.size).isEmpty)=true:=by
   have h9:(!(loadsM x.size).isEmpty&&(x.wide==decide (x.size=8)))=true:=hv
   exact (Bool.and_eq_true_iff.1 h9).1
  unfold loadsM at h3
  by_cases a1:x.size=1
  ·omega
  ·by_cases a2:x.size=2
   ·omega
   ·by_cases a3:x.size=4∨x.size=8
    ·omega
    ·rw [if_neg a1,if_neg a2,if_neg a3] at h3
     exact absurd h3 (by decide)
theorem bytes_made(w:World)(l:List UInt8):∃cap W,(convert 9 22 (.string (bA' l))).run prog w= .ok (.slice (some ⟨w.heap.size,0,none⟩) l.length cap) W∧Fr No w W∧CellsAt W w.heap.size 0 (u8s l)∧Open W w.heap.size 0 l.length∧w.heap.size<W.heap.size:=by
 have h:=Lib.run_convert_string_bytes (P:=prog) w 9 22 5 (bA' l) underlying9 underlying22 underlying5
 have hz:(bA' l).size=l.length:=sizeJ l
 rw [hz] at h
 refine ⟨_,_,h,⟨?_,?_,?_,?_,fun k hk _=>Lib.bytesWorld_at_old w _ _ k hk⟩,fun j v hj=> ?_,fun j hj=> ?_,by rw [Lib.bytesWorld_size];omega⟩
 ·unfold Lib.bytesWorld World.freeze;split<;>rfl
 ·unfold Lib.bytesWorld World.freeze;split<;>rfl
 ·unfold Lib.bytesWorld World.freeze;split<;>rfl
 ·rw [Lib.bytesWorld_size];omega
 ·have hl:j<l.length:=by
   have:=(List.getElem?_eq_some_iff.1 hj).1
   rwa [u8s_length] at this
  rw [Nat.zero_add,Lib.bytesWorld_cell w _ _ j (by rw [hz];exact hl),←hj]
  unfold u8s
  rw [List.getElem?_map,List.getElem?_eq_getElem hl]
  have e:(bA' l).data.toList.getD j 0=l[j]:=by
   show l.getD j 0=_
   rw [List.getD_eq_getElem?_getD,List.getElem?_eq_getElem hl,Option.getD_some]
  rw [e]
  rfl
 ·rw [Nat.zero_add]
  unfold World.frozen?
  simp only [Lib.bytesWorld_at_new]
  have hs:l.length≤(Lib.bytesCells w 5 (bA' l)).size:=by
   unfold Lib.bytesCells
   rw [Array.size_append,Array.size_map,show (bA' l).data.size=l.length from hz]
   omega
  rw [Bool.and_eq_false_iff]
  left
  exact decide_eq_false (by omega)
theorem PathAt.store_at{w0 w:World}{N bw mb pk bp:Nat}{ds:List MapD}{RL:RQ}{P:Nat→Prop}{q:PM}(h:PathAt w0 N bw mb ds pk RL bp P q w){k:Nat}{x:Nat×List UInt8}(hx:q.waits[k]? =some x):∃gw cap,w.cell? ⟨bp,22,none⟩=some (.slice (some ⟨gw,0,none⟩) q.waits.length cap)∧w.cell? ⟨gw,k*2,none⟩=some (.int .u64 x.1)∧w.cell? ⟨gw,k*2+1,none⟩=some (.string (bA' x.2))∧P gw:=by
 obtain ⟨wv,hc,hr,hk⟩:=h.box
 have hw:=hc 22 _ (pcells_w h.ok _)
 rw [Nat.zero_add] at hw
 have hlt:=(List.getElem?_eq_some_iff.1 hx).1
 rcases hr.2 with ⟨_,h0⟩|⟨g,cap,cu,rfl,_,hg,_,_,_,htk⟩
 ·omega
 ·have hf:∀(l:List (Nat×List UInt8)) (k:Nat),l[k]? =some x→(wflat l)[k*2]? =some (.int .u64 x.1)∧(wflat l)[k*2+1]? =some (.string (bA' x.2)):=by
   intro l
   induction l with
   |nil=>intro k h;simp at h
   |cons y l ih=>
    intro k h
    cases k with
    |zero=>obtain rfl:=Option.some.inj h;exact ⟨rfl,rfl⟩
    |succ k=>
     have:=ih k (by simpa using h)
     rw [show (k+1)*2=k*2+1+1 by omega]
     exact this
  have hc2:∀j v,(wflat q.waits)[j]? =some v→w.cell? ⟨g,j,none⟩=some v:=fun j v hj=>by
   rw [cell_of_row w g j cu _ _ hg]
   rw [←htk,List.getElem?_take] at hj
   split at hj
   ·simpa using hj
   ·cases hj
  have:=hf _ _ hx
  exact ⟨g,cap,hw,hc2 _ _ this.1,hc2 _ _ this.2,(hk g rfl).1⟩
def StI(W5:World)(gb:Nat)(l:List UInt8)(w:World):Prop:=Fr (fun k=>k=gb) W5 w∧CellsAt w gb 0 (u8s l)∧Open w gb 0 l.length
theorem StI.put{W5:World}{gb:Nat}{l:List UInt8}{w:World}(h:StI W5 gb l w){a:Nat}(ha:a<l.length)(b:UInt8):StI W5 gb (l.set a b) (w.setCell ⟨gb,a,none⟩ (.int .u8 (b.toNat:Int))):=by
 refine ⟨h.1.setCell (p:=⟨gb,a,none⟩) (.inr rfl) _,fun j v hj=> ?_,fun j hj=> ?_⟩
 ·unfold u8s at hj
  rw [List.getElem?_map,List.getElem?_set] at hj
  rw [Nat.zero_add]
  have hc:w.cell? ⟨gb,a,none⟩=some (.int .u8 (l[a].toNat:Int)):=by
   have:=h.2.1 a (.int .u8 (l[a].toNat:Int)) (by unfold u8s;rw [List.getElem?_map,List.getElem?_eq_getElem ha];rfl)
   rwa [Nat.zero_add] at this
  by_cases e:a=j
  ·subst e
   rw [if_pos rfl,if_pos ha] at hj
   rw [←Option.some.inj hj]
   exact World.cell?_setCell_same _ _ _ hc
  ·rw [if_neg e] at hj
   rw [World.cell?_setCell_other _ _ _ _ (by intro e2;simp only [Addr.mk.injEq] at e2;omega)]
   have:=h.2.1 j v (by unfold u8s;rw [List.getElem?_map];exact hj)
   rwa [Nat.zero_add] at this
 ·rw [World.frozen?_setCell]
  exact h.2.2 j (by rwa [List.length_set] at hj)
theorem at_wrap{a i t AT:Nat}(h:(((a:Int)+i-t)%18446744073709551616).toNat=AT):IntKind.u64.wrap (IntKind.u64.wrap ((a:Int)+(i:Int))-(t:Int))=(AT:Int):=by
 have e:∀z:Int,IntKind.u64.wrap z=z%18446744073709551616:=fun z=>rfl
 rw [e,e]
 omega
theorem run_store1(W:World)(b j:Nat)(u:Value)(v:Int)(hc:W.cell? ⟨b,j,none⟩=some u)(ho:W.frozen? ⟨b,j,none⟩=false):(Instr.storeAt 37 (.pointer (some ⟨b,j,none⟩)) (.int .u64 v)).run prog W= .ok () (W.setCell ⟨b,j,none⟩ (.int .u64 v)):=by
 simp [go_sem,hc,ho]
theorem index_reg(W:World)(b d:Nat)(hd:d<16):(Instr.indexAt 66 (.pointer (some ⟨b,0,none⟩)) (.int .i64 (d:Int))).run prog W= .ok (.pointer (some ⟨b,d,none⟩)) W:=by
 have h0:(0:Int)≤(d:Int):=by omega
 have h1:(d:Int)<16:=by omega
 simp [go_sem,h0,h1,underlying66]
theorem do_storeU{A:Act}{W:World}{x y:Operand}{b j:Nat}{u:Value}{v:Int}{ty:TypeId}{pos:String}{af:Array Edge}{g:Option (Nat×Bool)}{K:Act→World→Prop}{Q:Exit→Act→World→Prop}(hx:A.eval x= .pointer (some ⟨b,j,none⟩))(hy:A.eval y= .int .u64 v)(hc:W.cell? ⟨b,j,none⟩=some u)(ho:W.frozen? ⟨b,j,none⟩=false)(hK:K A (W.setCell ⟨b,j,none⟩ (.int .u64 v))):Oper.wp prog ⟨none, .store 37 x y,ty,pos,af,g⟩ A W K Q:=by
 have h:=run_store1 W b j u v hc ho
 unfold Oper.wp
 have e:(execOp A.eval ⟨none, .store 37 x y,ty,pos,af,g⟩).run prog W= .ok .skip (W.setCell ⟨b,j,none⟩ (.int .u64 v)):=by
  simp only [execOp,hx,hy,Sem.run_bind,h,Result.andThen_ok,Sem.run_pure]
 rw [e]
 exact hK
def stB(s:ST)(d v next:Nat)(h8 h10:Option Value):ST:=
 let s1:=if h8=none then s else s.set d v
 if h10=none then s1 else {s1 with pc:=next}
theorem StB.reg{W:World}{b:Nat}{s:ST}{d v next:Nat}{h10:Option Value}(h:SAt W b (stB s d v next none h10))(hd:d<16)(hv:v<18446744073709551616)(u:Value):SAt (W.setCell ⟨b,d,none⟩ (.int .u64 v)) b (stB s d v next (some u) h10):=by
 have:=h.setReg hd hv
 cases h10<;>exact this
theorem StB.pc{W:World}{b:Nat}{s:ST}{d v next:Nat}{h8:Option Value}(h:SAt W b (stB s d v next h8 none))(hn:next<18446744073709551616)(u:Value):SAt (W.setCell ⟨b,20,none⟩ (.int .u64 next)) b (stB s d v next h8 (some u)):=by
 have:=h.setPC hn
 cases h8<;>exact this
structure StS(W6:World)(b:Nat)(s:ST)(d v next:Nat)(h4 h8 h10:Option Value)(W:World):Prop where
 fr:Fr (fun k=>k=b) W6 W
 val:∀u,h4=some u→u= .int .u64 v
 st:SAt W b (stB s d v next h8 h10)
def staV:Option ST→Value
 |none=> .tuple #[ST.zero.agg, .bool false]
 |some s=> .tuple #[s.agg, .bool true]
theorem stale_any{w0 w:World}{N bw mb pk bp:Nat}{ds:List MapD}{RL:RQ}{P:Nat→Prop}{q:PM}(h:PathAt w0 N bw mb ds pk RL bp P q w)(hm:MachAt w0)(x:XI)(next n:Nat)(hx:x.ok)(hv:validM x=true)(hk:x.kind=13)(hn:next<18446744073709551616)(hl:q.waits.length≤1000000)(hnl:n≤q.waits.length):
  Calls prog 41 #[.pointer (some ⟨bp,0,none⟩),x.agg, .int .u64 next, .int .i64 n] w fun e w'=>e= .returned (staV (staleM q x next n))∧Hid (Fr No w w')∧∀s,staleM q x next n=some s→s.ok:=by
 have HV:Hid (x.size≤8∧0≤x.dst∧x.dst≤15):=Lib.hid (load_valid hv hk)
 have HB:Hid (∀t1 t2,_):=fun t1 t2=>two_boxes w x ST.zero_ok t1 t2
 have HH:=Lib.hid h
 have HM:=Lib.hid hm
 have HTX:Hid ((touchM x q.s).2=x.size):=Lib.hid (by
  unfold touchM
  rw [if_neg (by rw [hv];simp),if_pos hk])
 have HX:=Lib.hid hx
 clear hv hk hx
 clear h hm
 simp only [XI.agg]
 go_enter func41,ntmps41
 go_upto_region 1 with fail
 refine wp_box (fun W1=>Hid (Fr No w W1∧CellsAt W1 w.heap.size 0 x.cells∧SAt W1 (w.heap.size+1) ST.zero)) (by exact HB.out _ _) ?_
 clear HB
 intro W1 HL
 have HP:=Lib.hid (HH.out.no HL.out.1)
 have HTC:Hid (∀W,Fr No W1 W→Calls prog 36 #[.agg #[.int .i64 x.kind, .int .i64 x.alu, .int .i64 x.cond, .int .i64 x.size, .bool x.wide, .bool x.short, .int .i64 x.dst, .int .i64 x.src, .int .i32 x.disp, .int .i32 x.rel, .int .i64 x.imm], .agg q.s.cells.toArray] W fun e w'=>e= .returned (touV (touchM x q.s))∧Fr No W w'):=fun W hW=>touch_any x q.s W HX.out HP.out.ok (HM.out.fr (HP.out.no hW).wm.fr)
 go_cut [10,11] from 20 to 27 (fun s8 s9 wx=>s8= .int .u64 (touchM x q.s).1∧s9= .int .i64 (touchM x q.s).2∧Hid (Fr No W1 wx))
 case first=>
  rename_i J K' hJ hK
  refine wp_region_made [(5, .pointer (some ⟨w.heap.size,0,none⟩)),(0, .pointer (some ⟨bp,0,none⟩))]
   [some x.agg,some (.pointer (some ⟨bp,0,none⟩)),some (.pointer (some ⟨bp,0,none⟩)),some (.pointer (some ⟨bp,1,none⟩)),some (.agg q.s.cells.toArray),none,some (touV (touchM x q.s)),some (.int .u64 (touchM x q.s).1),some (.int .i64 (touchM x q.s).2),some (.int .u64 (touchM x q.s).1),some (.int .i64 (touchM x q.s).2)]
   (fun h W=>Fr No W1 W∧∀v,h 5=some v→v=touV (touchM x q.s)) (by kernel_rfl) (by kernel_rfl) (by kernel_rfl) (by kernel_rfl) ⟨rfl,rfl,trivial⟩ ⟨(Fr.refl No W1).drew,fun v hv=>by cases hv⟩ ?_ ?_ ?_
  ·intro k o c ho hc h A' W' hS hpre hb
   have HPW:=HP.out.no hS.1
   match k,ho,hc,hpre with
   |0,ho,hc,hpre=>cases ho;cases hc;exact do_load (base_val hb 5 (by simp)) (run_loadAt_mid W' w.heap.size 0 _ _ _ (hS.1.cells HL.out.2.1 id) underlying48 rfl (XI.info x))
   |1,ho,hc,hpre=>cases ho;cases hc;exact do_move (base_val hb 0 (by simp))
   |2,ho,hc,hpre=>
    cases ho;cases hc
    exact do_nil (pre_val hpre 1 21 (by kernel_rfl) rfl rfl)
   |3,ho,hc,hpre=>
    cases ho;cases hc
    have e:=pre_val hpre 2 22 (by kernel_rfl) rfl rfl
    show (execOp A'.eval ⟨some 23, .fieldAddr 74 (.tmp 22) 1,_,_,_,_⟩).run prog W'=_
    simp only [execOp,e]
    first|kernel_rfl|simp [go_sem]
   |4,ho,hc,hpre=>cases ho;cases hc;exact do_load (pre_val hpre 3 23 (by kernel_rfl) rfl rfl) (run_loadAt_mid W' bp 1 _ _ _ HPW.cellsS underlying68 rfl (ST.info HPW.ok))
   |5,ho,hc,hpre=>cases hc
   |6,ho,hc,hpre=>
    cases ho;cases hc
    obtain ⟨v,h1,h2⟩:=pre_made1 hpre 5 25 (by kernel_rfl) rfl rfl
    exact do_move (h2.trans (hS.2 v h1))
   |7,ho,hc,hpre=>cases ho;cases hc;exact do_extract (pre_val hpre 6 19 (by kernel_rfl) rfl rfl) rfl
   |8,ho,hc,hpre=>cases ho;cases hc;exact do_extract (pre_val hpre 6 19 (by kernel_rfl) rfl rfl) rfl
   |9,ho,hc,hpre=>cases ho;cases hc;exact do_assign (pre_val hpre 7 26 (by kernel_rfl) rfl rfl)
   |10,ho,hc,hpre=>cases ho;cases hc;exact do_assign (pre_val hpre 8 27 (by kernel_rfl) rfl rfl)
   |n+11,ho,hc,hpre=>cases hc
  ·intro k o ho hc h A' W' hdf hi hS hpre hb
   match k,ho,hc,hi,hpre with
   |5,ho,hc,hi,hpre=>
    cases ho
    have e1:A'.eval (.tmp 20)=x.agg:=pre_val2 hpre 0 20 (by kernel_rfl) rfl rfl
    have e2:A'.eval (.tmp 24)= .agg q.s.cells.toArray:=pre_val2 hpre 4 24 (by kernel_rfl) rfl rfl
    refine do_call (f:=36) (args:= #[x.agg, .agg q.s.cells.toArray]) ?_ ((HTC.out W' hS.1).mono fun e w' hh=> ?_)
    ·show (execOp A'.eval ⟨some 25, .call {callee:= .value (.func 36),args:= #[.tmp 20, .tmp 24],argTypes:=_},_,_,_,_⟩).run prog W'=_
     simp [execOp,resolve,invoke,e1,e2,go_sem]
     exact ⟨by rw [←Array.getD_eq_getD_getElem?];exact e1,by rw [←Array.getD_eq_getD_getElem?];exact e2⟩
    ·obtain ⟨rfl,hf⟩:=hh
     exact ⟨_,rfl,_,rfl,hS.1.trans hf,fun v hv=>by unfold setH at hv;simpa using hv.symm⟩
   |0,ho,hc,hi,hpre=>cases hc
   |1,ho,hc,hi,hpre=>cases hc
   |2,ho,hc,hi,hpre=>cases hc
   |3,ho,hc,hi,hpre=>cases hc
   |4,ho,hc,hi,hpre=>cases hc
   |6,ho,hc,hi,hpre=>cases hc
   |7,ho,hc,hi,hpre=>cases hc
   |8,ho,hc,hi,hpre=>cases hc
   |9,ho,hc,hi,hpre=>cases hc
   |10,ho,hc,hi,hpre=>cases hc
   |n+11,ho,hc,hi,hpre=>cases ho
  ·intro h V' W' hV hS
   have e9:V' 9= .int .u64 (touchM x q.s).1:=(Option.some.inj (hV 9 (by decide))).symm
   have e10:V' 10= .int .i64 (touchM x q.s).2:=(Option.some.inj (hV 10 (by decide))).symm
   exact hK _ _ (Met.intro (hJ _ _ ⟨V' 9,V' 10,V' 6,V' 0,V' 1,V' 2,V' 3,V' 4,V' 5,V' 7,V' 8,⟨e9,e10,Lib.hid hS.1⟩,by kernel_rfl⟩))
 case rest=>
  obtain ⟨rfl,rfl,HF2⟩:=hcut
  have HP2:=Lib.hid (HP.out.no HF2.out)
  have HL2:=Lib.hid (And.intro (HL.out.1.trans HF2.out) (And.intro (HF2.out.cells HL.out.2.1 id) (HL.out.2.2.fr HF2.out id)))
  have HA:=Lib.hid (touch_lt x HP.out.ok)
  have HSN:Hid (∀e:Int,(mtext q.W.m (touchM x q.s).1 (touchM x q.s).2).2=e→e≠0→staleM q x next n=none):=Lib.hid fun e he h0=>stale_none rfl (he ▸ h0)
  have HSS:Hid ((mtext q.W.m (touchM x q.s).1 (touchM x q.s).2).2=0→staleM q x next n=some {(q.s.set x.dst.toNat (leNum (laidTo (touchM x q.s).1 (touchM x q.s).2.toNat (mtext q.W.m (touchM x q.s).1 (touchM x q.s).2).1 q.waits n))) with pc:=next}):=Lib.hid fun h0=>stale_some rfl h0
  clear HP HL HF2 HTC
  generalize touchM x q.s=tq at*
  have HTX2:Hid (Calls prog 42 #[.pointer (some ⟨mb,0,none⟩), .int .u64 tq.1, .int .i64 tq.2] wc fun e w'=>e= .returned (.tuple #[.string (bA' (mtext q.W.m tq.1 tq.2).1), .int .i64 (mtext q.W.m tq.1 tq.2).2])∧Fr No wc w'):=Lib.hid (HP2.out.wm.text tq.1 tq.2 HA.out (by rw [HTX.out];have:=HV.out.1;omega))
  have HTL:Hid ((mtext q.W.m tq.1 tq.2).2=0→0≤tq.2∧((mtext q.W.m tq.1 tq.2).1.length:Int)=tq.2):=Lib.hid mtext_len
  generalize mtext q.W.m tq.1 tq.2=tx at*
  have hp0:=HP2.out.world0
  go_upto_region 3 with (first
   |(go_at_call 13;(with_reducible refine (HP2.out.wm.memory).mono ?_);rintro e3 w3 ⟨rfl,rfl⟩)
   |(go_at_call 42;(with_reducible refine HTX2.out.mono ?_);rintro e4 w4 ⟨rfl,hf4⟩))
  have HP4:=Lib.hid (HP2.out.no hf4)
  have HL4:=Lib.hid (And.intro (HL2.out.1.trans hf4) (And.intro (hf4.cells HL2.out.2.1 id) (HL2.out.2.2.fr hf4 id)))
  clear HP2 HL2 HTX2 hp0 hf4
  obtain ⟨bs,er⟩:=tx
  simp only at*
  by_cases h0:er=0
  ·subst h0
   have HSS2:=Lib.hid (HSS.out rfl)
   obtain ⟨h1,h2⟩:=HTL.out rfl
   have hb8:bs.length≤8:=by have:=HTX.out;have:=HV.out.1;omega
   obtain ⟨ta,tn⟩:=tq
   simp only at*
   subst h2
   rw [Int.toNat_natCast] at HSS2
   obtain ⟨cap,W5,hcv,hf5,hc5,ho5,hg5⟩:=bytes_made w4 bs
   have HG:Hid (∀k,k=w4.heap.size→(Out w0 N RL k∧¬P k)∧k≠w.heap.size∧k≠w.heap.size+1∧w.heap.size≤k):=Lib.hid fun k hk=>by
    have h1:=HP4.out.wm.fr.size
    have h2:=HP4.out.wm.bound
    have h3:=HL4.out.1.size
    have h4:=HL4.out.2.2.lt
    exact ⟨⟨⟨by omega, .inl (by omega)⟩,fun hp=>by have:=HP4.out.plt k hp;omega⟩,by omega,by omega,by omega⟩
   have HP5:=Lib.hid (HP4.out.no hf5)
   have HL5:=Lib.hid (And.intro (HL4.out.1.trans hf5) (And.intro (hf5.cells HL4.out.2.1 id) (HL4.out.2.2.fr hf5 id)))
   have HG5:=Lib.hid hg5
   have HI5:Hid (StI W5 w4.heap.size bs W5):=Lib.hid ⟨Fr.refl _ _,hc5,ho5⟩
   clear HSS HSN HTL h1 hf5 hc5 ho5 hg5 HP4 HL4
   go_upto_region 6 with fail
   clear hcv
   generalize w4.heap.size=gb at*
   have HPW:Hid (∀wr,Fr (fun k=>k=gb) W5 wr→PathAt w0 N bw mb ds pk RL bp P q wr):=Lib.hid fun wr hw=>HP5.out.fr hw (fun k hk=>(HG.out k hk).1)
   have HLN:Hid (∀j,(laidTo ta bs.length bs q.waits j).length=bs.length):=Lib.hid (laidTo_len ta bs.length bs q.waits)
   obtain ⟨wa,wn,hwc⟩:=HP5.out.waits
   obtain ⟨L,hL⟩:∃L,q.waits.length=L:=⟨_,rfl⟩
   rw [hL] at hl hnl hwc
   have el:wrap64 ((L:Int)-1)=(L:Int)-1:=IntWalk.wrap64_in _ (by omega)
   go_upto_region 7 with fail
   clear hwc el
   generalize hn8:bs.length=n8 at*
   go_loopw [15] (fun s15 wr=>∃j:Nat,j≤n∧s15= .int .i64 ((L:Int)-1-j)∧Hid (StI W5 gb (laidTo ta n8 bs q.waits j) wr)) (fun s15 _=>(intOf s15+1).toNat)
   case atStart=>exact ⟨0,Nat.zero_le _,by simp,HI5⟩
   case round=>
    obtain ⟨j,hj,rfl,HI⟩:=hrel
    clear HI5
    have HPR:=Lib.hid (HPW.out wr HI.out.1)
    have ew:wrap64 ((L:Int)-(n:Int))=(L:Int)-(n:Int):=IntWalk.wrap64_in _ (by omega)
    by_cases hjn:j<n
    ·obtain ⟨kk,hkk⟩:∃kk:Nat,kk+1+j=L:=⟨L-1-j,by omega⟩
     rw [show ((L:Int)-1-j)=(kk:Int) by omega]
     have q1:(L:Int)-(n:Int)≤(kk:Int):=by omega
     have q2:¬(kk:Int)<(L:Int)-(n:Int):=by omega
     have b1:(0:Int)≤(kk:Int):=by omega
     have b2:(kk:Int)<(L:Int):=by omega
     obtain ⟨xk,hxk⟩:∃xk,q.waits[kk]? =some xk:=⟨q.waits[kk]'(by omega),List.getElem?_eq_getElem _⟩
     have HW:Hid (∃gw wn2,∀wx,Fr (fun k=>k=gb) W5 wx→wx.cell? ⟨bp,22,none⟩=some (.slice (some ⟨gw,0,none⟩) L wn2)∧wx.cell? ⟨gw,kk*2,none⟩=some (.int .u64 xk.1)∧wx.cell? ⟨gw,kk*2+1,none⟩=some (.string (bA' xk.2))):=by
      obtain ⟨gw,wn2,s0,s1,s2,s3⟩:=HP5.out.store_at hxk
      rw [hL] at s0
      have e1:¬bp=gb:=fun e=>(HG.out gb rfl).1.2 (e ▸ HP5.out.own)
      have e2:¬gw=gb:=fun e=>(HG.out gb rfl).1.2 (e ▸ s3)
      exact Lib.hid ⟨gw,wn2,fun wx hf=>⟨hf.cell s0 e1,hf.cell s1 e2,hf.cell s2 e2⟩⟩
     obtain ⟨gw,wn2,hW⟩:=HW.out
     have HW2:=Lib.hid hW
     obtain ⟨s0,s1,s2⟩:=hW wr HI.out.1
     have hlens:=HPR.out.lens xk (List.mem_of_getElem? hxk)
     have HXK:=Lib.hid hxk
     have HKK:=Lib.hid hkk
     have sz:(bA' xk.2).size=xk.2.length:=sizeJ _
     have HLS:Hid (laidTo ta n8 bs q.waits (j+1)=overM ta n8 (laidTo ta n8 bs q.waits j) xk):=Lib.hid (laidTo_succ ta n8 bs q.waits (by rw [hL];exact hkk) hxk)
     have HJL:=Lib.hid (HLN.out j)
     clear hxk hkk HW hW
     go_upto_region 10 with fail
     obtain ⟨wo,hwo⟩:∃wo:World,wo=wr:=⟨_,rfl⟩
     clear s0 s1 s2
     obtain ⟨sl,hsl⟩:∃sl,xk.2.length=sl:=⟨_,rfl⟩
     rw [hsl] at hlens
     generalize hlj:laidTo ta n8 bs q.waits j=lj at*
     go_loopw [70] (fun s70 wx=>∃i:Nat,i≤sl∧s70= .int .i64 i∧Hid (StI W5 gb (overTo ta n8 lj xk i) wx)) (fun s70 _=>sl-(intOf s70).toNat)
     case atStart=>exact ⟨0,Nat.zero_le _,rfl,HI⟩
     case round=>
      obtain ⟨i,hi,rfl,HI2⟩:=hrel
      by_cases his:i<sl
      ·obtain ⟨s0,s1,s2⟩:=HW2.out wr HI2.out.1
       have c1:(0:Int)≤(i:Int):=by omega
       have c2:(i:Int)<(sl:Int):=by omega
       obtain ⟨AT,hAT⟩:∃AT:Nat,(((xk.1:Int)+i-ta)%18446744073709551616).toNat=AT:=⟨_,rfl⟩
       have eAT:=at_wrap hAT
       have hOS:overTo ta n8 lj xk (i+1)=if AT<n8 then (overTo ta n8 lj xk i).set AT (xk.2.getD i 0) else overTo ta n8 lj xk i:=by rw [overTo_succ,←hAT];rfl
       have hol:(overTo ta n8 lj xk i).length=n8:=by rw [overTo_len];exact HJL.out
       have eb:∀h,(bA' xk.2)[i]'h=xk.2.getD i 0:=fun h=>by
        rw [List.getD_eq_getElem?_getD,List.getElem?_eq_getElem (by omega),Option.getD_some];rfl
       have EB:=Lib.hid eb
       clear eb
       by_cases hlt:AT<n8
       ·rw [if_pos hlt] at hOS
        have HI3:Hid (StI W5 gb (overTo ta n8 lj xk (i+1)) (wr.setCell ⟨gb,AT,none⟩ (.int .u8 ((xk.2.getD i 0).toNat:Int)))):=by rw [hOS];exact Lib.hid (HI2.out.put (by omega) _)
        have cb:∃v,wr.cell? ⟨gb,AT,none⟩=some v:=by
         have hcb:=HI2.out.2.1 AT (.int .u8 (((overTo ta n8 lj xk i)[AT]'(by omega)).toNat:Int)) (by unfold u8s;rw [List.getElem?_map,List.getElem?_eq_getElem (by omega)];rfl)
         rw [Nat.zero_add] at hcb
         exact ⟨_,hcb⟩
        obtain ⟨vb,cb⟩:=cb
        have ob:wr.frozen? ⟨gb,AT,none⟩=false:=by
         have:=HI2.out.2.2 AT (by omega)
         rwa [Nat.zero_add] at this
        have d1:(0:Int)≤(AT:Int):=by omega
        have d2:(AT:Int)<(n8:Int):=by omega
        clear hOS hol hAT
        go_upto_region 13 with fail
        clear eAT
        go_wp2_with fail
        go_roundw
        case rel=>exact ⟨i+1,by omega,by go_num,by rw [EB.out];exact HI3⟩
        case measure=>simp [intOf]<;>omega
       ·rw [if_neg hlt] at hOS
        have d1:(0:Int)≤(AT:Int):=by omega
        have d2:¬(AT:Int)<(n8:Int):=by omega
        have HI3:Hid (StI W5 gb (overTo ta n8 lj xk (i+1)) wr):=by rw [hOS];exact HI2
        clear hOS hol hAT
        go_upto_region 13 with fail
        clear eAT
        go_wp2_with fail
        go_roundw
        case rel=>exact ⟨i+1,by omega,by go_num,HI3⟩
        case measure=>simp [intOf]<;>omega
      ·obtain rfl:i=sl:=by omega
       have c2:¬(i:Int)<(i:Int):=by omega
       have HI3:Hid (StI W5 gb (laidTo ta n8 bs q.waits (j+1)) wr):=by
        rw [HLS.out,←overTo_all,hsl];exact HI2
       have hkk:=HKK.out
       clear HI HI2
       go_wp2_with fail
       go_roundw
       case rel=>exact ⟨j+1,by omega,congrArg (Value.int .i64) (by omega),HI3⟩
       case measure=>simp [intOf]<;>omega
    ·obtain rfl:j=n:=by omega
     have q2:¬(L:Int)-(j:Int)≤(L:Int)-1-(j:Int):=by omega
     obtain ⟨wa2,wn2,hwc⟩:=HPR.out.waits
     rw [hL] at hwc
     have HSN:Hid (∀t,SAt (wr.alloc (.cells ST.zero.cells.toArray t)) wr.heap.size ST.zero∧Fr No wr (wr.alloc (.cells ST.zero.cells.toArray t))):=Lib.hid fun t=>⟨SAt.new wr ST.zero_ok t,fr_alloc _ _⟩
     have HQO:=Lib.hid HPR.out.ok
     go_upto_region 16 with fail
     clear hwc
     go_upto_region 17 with (first
      |(refine HPR.out.loadS rfl (.tmp 106) rfl rfl ?_)
      |(refine (HSN.out _).1.store HQO.out rfl (.tmp 18) (.tmp 107) rfl rfl rfl ?_;intro W17 h17 hf17))
     have HF17:=Lib.hid ((HSN.out 68).2.any.trans (hf17.mono fun k _ hk=>by show wr.heap.size≤k;omega):Fr (From wr) wr W17).ours
     have hlf:=HLN.out j
     generalize hll:laidTo ta n8 bs q.waits j=ll at*
     have HI17:Hid (CellsAt W17 gb 0 (u8s ll)):=Lib.hid (HF17.out.cells HI.out.2.1 id)
     have hfw:Fr (fun k=>k=gb) W5 W17:=HI.out.1.trans HF17.out.any
     have HL17:Hid (CellsAt W17 w.heap.size 0 x.cells∧SAt W17 (w.heap.size+1) ST.zero∧Fr No w W17):=by
      have g1:=HG.out gb rfl
      refine Lib.hid ⟨hfw.cells HL5.out.2.1 (fun e=>g1.2.1 e.symm),HL5.out.2.2.fr hfw (fun e=>g1.2.2.1 e.symm),?_⟩
      exact (((HL5.out.1.any.trans (hfw.mono fun k _ hk=>by show w.heap.size≤k;rw [hk];exact g1.2.2.2)):Fr (From w) w W17)).ours
     obtain ⟨dd,hdd⟩:∃dd:Nat,x.dst=(dd:Int):=⟨x.dst.toNat,by have:=HV.out.2.1;omega⟩
     have hd16:dd<16:=by have:=HV.out.2.2;omega
     obtain ⟨vv,hvv⟩:∃vv,leNum ll=vv:=⟨_,rfl⟩
     have hv64:vv<18446744073709551616:=by
      rw [←hvv]
      have:=leNum_lt ll
      have h8:256^ll.length≤256^8:=Nat.pow_le_pow_right (by decide) (by omega)
      omega
     have HNU:Hid (∀W,Calls prog 73 #[.string (bA' ll)] W fun e w'=>e= .returned (.int .u64 vv)∧W=w'):=Lib.hid fun W=>by
      have h:=num_any (bA' ll) W (by rw [sizeJ];unfold maxLen;omega)
      rw [show (bA' ll).data.toList.take 8=ll from List.take_of_length_le (by show ll.length≤8;omega),hvv] at h
      exact h
     have HE2:Hid (staleM q x next j=some (stB q.s dd vv next (some undef) (some undef))):=by
      rw [HSS2.out,hvv,show x.dst.toNat=dd by omega];exact Lib.hid rfl
     have HN64:=Lib.hid hn
     have hb1:gb<wr.heap.size:=by
      exact Nat.lt_of_lt_of_le HG5.out HI.out.1.size
     have hb2:w.heap.size+1<wr.heap.size:=by
      exact Nat.lt_of_lt_of_le HL5.out.2.2.lt HI.out.1.size
     clear HI HPR HSN hf17 HSS2
     generalize wr.heap.size=b18 at*
     simp only [Act.put]
     go_cut [112] from 108 to 116 (fun s112 wx=>Hid (SAt wx b18 (stB q.s dd vv next (some undef) (some undef))∧Fr (fun k=>k=b18) W17 wx))
     case first=>
      rename_i J K' hJ hK
      refine wp_region_made [(5, .pointer (some ⟨w.heap.size,0,none⟩)),(14, .slice (some ⟨gb,0,none⟩) n8 cap),(18, .pointer (some ⟨b18,0,none⟩)),(2, .int .u64 next)]
       [some (.pointer (some ⟨w.heap.size,6,none⟩)),some (.int .i64 x.dst),some (.slice (some ⟨gb,0,none⟩) n8 cap),some (.string (bA' ll)),none,some (.int .u64 next),some (.pointer (some ⟨b18,0,none⟩)),some (.pointer (some ⟨b18,dd,none⟩)),none,some (.pointer (some ⟨b18,20,none⟩)),none]
       (fun h W=>StS W17 b18 q.s dd vv next (h 4) (h 8) (h 10) W) (by kernel_rfl) (by kernel_rfl) (by kernel_rfl) (by kernel_rfl) ⟨rfl,rfl,rfl,rfl,trivial⟩ ⟨(Fr.refl _ W17).drew,(fun u hu=>by cases hu),h17.fr (Fr.refl No W17).drew id⟩ ?_ ?_ ?_
      ·intro k o c ho hc h A' W' hS hpre hb
       have cx:=hS.fr.cells HL17.out.1 (by omega)
       have cg:=hS.fr.cells HI17.out (by omega)
       match k,ho,hc,hpre with
       |0,ho,hc,hpre=>
        cases ho;cases hc
        have e:=base_val hb 5 (v:= .pointer (some ⟨w.heap.size,0,none⟩)) (by simp)
        show (execOp A'.eval ⟨some 108, .fieldAddr 48 (.tmp 5) 6,_,_,_,_⟩).run prog W'=_
        simp only [execOp,e]
        first|kernel_rfl|simp [go_sem]
       |1,ho,hc,hpre=>
        cases ho;cases hc
        have c6:=(XI.at cx).2.2.2.2.2.2.1
        exact do_load (pre_val hpre 0 108 (by kernel_rfl) rfl rfl) (by simp [go_sem,c6])
       |2,ho,hc,hpre=>cases ho;cases hc;exact do_move (base_val hb 14 (by simp))
       |3,ho,hc,hpre=>cases ho;cases hc;exact do_convert (pre_val hpre 2 110 (by kernel_rfl) rfl rfl) (run_str_of_bytes W' _ _ 5 underlying22 underlying5 underlying9 gb 0 cap ll n8 hlf cg)
       |4,ho,hc,hpre=>cases hc
       |5,ho,hc,hpre=>cases ho;cases hc;exact do_move (base_val hb 2 (by simp))
       |6,ho,hc,hpre=>
        cases ho;cases hc
        have e:=base_val hb 18 (v:= .pointer (some ⟨b18,0,none⟩)) (by simp)
        show (execOp A'.eval ⟨some 114, .fieldAddr 68 (.tmp 18) 0,_,_,_,_⟩).run prog W'=_
        simp only [execOp,e]
        first|kernel_rfl|simp [go_sem]
       |7,ho,hc,hpre=>
        cases ho;cases hc
        exact do_index (pre_val hpre 6 114 (by kernel_rfl) rfl rfl) ((pre_val hpre 1 109 (by kernel_rfl) rfl rfl).trans (by rw [hdd])) (index_reg W' b18 dd hd16)
       |8,ho,hc,hpre=>cases hc
       |9,ho,hc,hpre=>
        cases ho;cases hc
        have e:=base_val hb 18 (v:= .pointer (some ⟨b18,0,none⟩)) (by simp)
        show (execOp A'.eval ⟨some 116, .fieldAddr 68 (.tmp 18) 5,_,_,_,_⟩).run prog W'=_
        simp only [execOp,e]
        first|kernel_rfl|simp [go_sem]
       |10,ho,hc,hpre=>cases hc
       |n+11,ho,hc,hpre=>cases hc
      ·intro k o ho hc h A' W' hdf hi hS hpre hb
       match k,ho,hc,hi,hpre with
       |4,ho,hc,hi,hpre=>
        cases ho
        have e1:A'.eval (.tmp 111)= .string (bA' ll):=pre_val2 hpre 3 111 (by kernel_rfl) rfl rfl
        refine do_call (f:=73) (args:= #[.string (bA' ll)]) ?_ ((HNU.out W').mono fun e w' hh=> ?_)
        ·show (execOp A'.eval ⟨some 112, .call {callee:= .value (.func 73),args:= #[.tmp 111],argTypes:=_},_,_,_,_⟩).run prog W'=_
         simp [execOp,resolve,invoke,e1,go_sem]
         rw [←Array.getD_eq_getD_getElem?];exact e1
        ·obtain ⟨rfl,rfl⟩:=hh
         exact ⟨_,rfl,_,rfl,hS.fr,fun v hv=>by unfold setH at hv;simpa using hv.symm,hS.st⟩
       |8,ho,hc,hi,hpre=>
        cases ho
        obtain ⟨v,h1,h2⟩:=pre_made hpre 4 112 (by kernel_rfl) rfl rfl
        obtain rfl:=hS.val v h1
        have hst:=hS.st
        rw [hi] at hst
        refine do_storeU (pre_val2 hpre 7 115 (by kernel_rfl) rfl rfl) h2 (hst.reg hd16) (hst.open_ dd) ⟨undef,rfl,?_⟩
        show StS W17 b18 q.s dd vv next (h 4) (some undef) (h 10) _
        exact ⟨hS.fr.setCell (p:=⟨b18,dd,none⟩) (.inr rfl) _,hS.val,StB.reg hst hd16 hv64 _⟩
       |10,ho,hc,hi,hpre=>
        cases ho
        have e2:A'.eval (.tmp 113)= .int .u64 next:=pre_val2 hpre 5 113 (by kernel_rfl) rfl rfl
        have hst:=hS.st
        rw [hi] at hst
        refine do_storeU (pre_val2 hpre 9 116 (by kernel_rfl) rfl rfl) e2 hst.at.2.2.2.2 (hst.open_ 20) ⟨undef,rfl,?_⟩
        show StS W17 b18 q.s dd vv next (h 4) (h 8) (some undef) _
        exact ⟨hS.fr.setCell (p:=⟨b18,20,none⟩) (.inr rfl) _,hS.val,StB.pc hst hn _⟩
       |0,ho,hc,hi,hpre=>cases hc
       |1,ho,hc,hi,hpre=>cases hc
       |2,ho,hc,hi,hpre=>cases hc
       |3,ho,hc,hi,hpre=>cases hc
       |5,ho,hc,hi,hpre=>cases hc
       |6,ho,hc,hi,hpre=>cases hc
       |7,ho,hc,hi,hpre=>cases hc
       |9,ho,hc,hi,hpre=>cases hc
       |n+11,ho,hc,hi,hpre=>cases ho
      ·intro h V' W' hV hS
       have e8:h 8=some (V' 8):=hV 8 (by decide)
       have e10:h 10=some (V' 10):=hV 10 (by decide)
       have hst:=hS.st
       rw [e8,e10] at hst
       exact hK _ _ (Met.intro (hJ _ _ ⟨V' 0,V' 1,V' 2,V' 3,V' 4,V' 5,V' 6,V' 7,V' 9,Lib.hid ⟨hst,hS.fr⟩,by kernel_rfl⟩))
     case rest=>
      have HC:=hcut
      have HR18:Hid (SAt wc (w.heap.size+1) ST.zero∧Fr No w wc):=by
       refine Lib.hid ⟨HL17.out.2.1.fr HC.out.2 (by omega),?_⟩
       exact ((HL17.out.2.2.any.trans (HC.out.2.mono fun k _ hk=>by show w.heap.size≤k;omega)):Fr (From w) w wc).ours
      have HOK:=Lib.hid HC.out.1.ok
      go_wp2_with (first
       |(refine HC.out.1.load rfl (.tmp 18) rfl rfl ?_)
       |(refine HR18.out.1.store HOK.out rfl (.tmp 8) (.tmp 117) rfl rfl rfl ?_;intro W9 h9 hf9))
      exact bodyPost_ret (results_st2 results41 _ _ _ _ h9 rfl) rfl ⟨by rw [HE2.out];rfl,Lib.hid ((HR18.out.2.any.trans (hf9.mono fun k _ hk=>by show w.heap.size≤k;omega)):Fr (From w) w W9).ours,fun s hs=>by rw [HE2.out] at hs;rw [←Option.some.inj hs];exact HOK.out⟩
  ·have q1:(er !=0)=true:=by rw [bne_iff_ne];exact h0
   have HE:=Lib.hid (HSN.out er rfl h0)
   clear HSN HSS HTL
   go_wp2_with (refine HL4.out.2.2.store ST.zero_ok rfl (.tmp 8) (.tmp 41) rfl rfl rfl ?_;intro W9 h9 hf9)
   exact bodyPost_ret (results_st2 results41 _ _ _ ST.zero h9 rfl) rfl ⟨by rw [HE.out];rfl,Lib.hid ((HL4.out.1.any.trans (hf9.mono fun k _ hk=>by show w.heap.size≤k;omega)):Fr (From w) w W9).ours,fun s hs=>by rw [HE.out] at hs;cases hs⟩
end Go.Proofs.YtfmcmfiebehhiaaGreatDoor

