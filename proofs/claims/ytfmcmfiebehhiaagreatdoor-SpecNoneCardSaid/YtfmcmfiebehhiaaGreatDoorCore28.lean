/- package codec: Decode. package machine: an instruction's box; Fetch; Begin. A region that draws its order, and may die in the midst: each operation is shown once, in the state that all of them leave. -/
import Derived.Test.YtfmcmfiebehhiaaGreatDoorCore27
import Derived.OrdersHeld
import Derived.RegionTactic
import Derived.Deep.RegionHeld
set_option linter.all false
set_option linter.unusedVariables false
set_option linter.unusedSimpArgs false
set_option maxRecDepth 100000
set_option maxHeartbeats 4000000
namespace Go.Proofs.YtfmcmfiebehhiaaGreatDoor
open Go.Proofs.Tryz
open Go.RowKit
def kindsFrom(k:Nat):List Nat:=kindsL.drop (k-1)
theorem kinds_step:∀k:Nat,1≤k→k<22→kindsFrom k=k::kindsFrom (k+1):=by
 intro k h1 h2
 match k,h1,h2 with
 |1,_,_=>rfl
 |2,_,_=>rfl
 |3,_,_=>rfl
 |4,_,_=>rfl
 |5,_,_=>rfl
 |6,_,_=>rfl
 |7,_,_=>rfl
 |8,_,_=>rfl
 |9,_,_=>rfl
 |10,_,_=>rfl
 |11,_,_=>rfl
 |12,_,_=>rfl
 |13,_,_=>rfl
 |14,_,_=>rfl
 |15,_,_=>rfl
 |16,_,_=>rfl
 |17,_,_=>rfl
 |18,_,_=>rfl
 |19,_,_=>rfl
 |20,_,_=>rfl
 |21,_,_=>rfl
 |k+22,_,h=>omega
theorem kinds_end:kindsFrom 22= []:=rfl
def decV:Option (XI×Nat)→Value
 |some q=> .tuple #[q.1.agg, .int .i64 q.2, .int .i64 0]
 |none=> .tuple #[XI.zero.agg, .int .i64 0, .int .i64 110]
theorem decode_any(s:List UInt8)(at_)(hlt:at_<s.length)(hl:s.length≤1000000)(w:World)(h:MachAt w):
  Calls prog 35 #[.string (bA' s), .int .i64 at_] w fun e w'=>e= .returned (decV (decodeM (s.drop at_)))∧Fr No w w':=by
 have HM:=Lib.hid h
 have sz:(bA' s).size=s.length:=sizeJ s
 have i1:(0:Int)≤(at_:Int):=by omega
 have i2:(at_:Int)≤(s.length:Int):=by omega
 have i3:(at_:Int)<(s.length:Int):=by omega
 have ex:(bA' s).extract at_ s.length=bA' (s.drop at_):=extract_drop s at_
 have hl2:(s.drop at_).length≤1000000:=by rw [List.length_drop];omega
 obtain ⟨T,hT⟩:∃T,s.drop at_=T:=⟨_,rfl⟩
 rw [hT] at ex hl2 ⊢
 have HGU:Hid (∀(k:Nat) W,k<22→Fr No w W→Calls prog 66 #[.string (bA' T), .int .i64 k] W fun e w'=>e= .returned (guessM T k).agg∧Fr No W w'):=fun k W hk hf=>guess_any k hk T hl2 W (HM.out.fr hf)
 have HEN:Hid (∀(x:XI) W,x.ok→Fr No w W→Calls prog 67 #[x.agg] W fun e w'=>e= .returned (encV x)∧Fr No W w'):=fun x W hx hf=>encode_any x hx.wf W (HM.out.fr hf)
 have HE0:Hid (decodeM T=decodeFrom T (kindsFrom 1)):=Lib.hid rfl
 obtain ⟨A,hA⟩:∃A,decodeM T=A:=⟨_,rfl⟩
 rw [hA] at HE0 ⊢
 have HEX:=Lib.hid ex
 clear h hl hl2 hA hT hlt ex
 go_enter func35,ntmps35
 go_wp2_with fail
 obtain ⟨W1,hW1⟩:∃W1,W1=w.alloc (Obj.cells #[.int .i64 0, .int .i64 0, .int .i64 0, .int .i64 0, .bool false, .bool false, .int .i64 0, .int .i64 0, .int .i32 0, .int .i32 0, .int .i64 0] 48):=⟨_,rfl⟩
 have HI1:Hid (Fr No w W1∧CellsAt W1 w.heap.size 0 XI.zero.cells∧∀j,W1.frozen? ⟨w.heap.size,j,none⟩=false):=by
  rw [hW1];exact ⟨fr_alloc _ _,CellsAt.new w _ _,fun j=>World.frozen?_alloc_new _ _ _ _⟩
 have HLO:Hid (w.heap.size≤w.heap.size):=Nat.le_refl _
 rw [←hW1]
 clear hW1
 generalize hb:w.heap.size=bx at*
 have HB:=Lib.hid hb
 clear hb
 go_loopw [7,8,9,10] (fun s7 _ _ _ wr=>∃k:Nat,1≤k∧k≤22∧s7= .int .i64 k∧Hid (Fr No w wr∧CellsAt wr bx 0 XI.zero.cells∧∀j,wr.frozen? ⟨bx,j,none⟩=false)∧Hid (A=decodeFrom T (kindsFrom k))) (fun s7 _ _ _ _=>22-(intOf s7).toNat)
 case atStart=>exact ⟨1,by decide,by decide,rfl,HI1,HE0⟩
 case round=>
  obtain ⟨k,hk1,hk2,rfl,HI,HE⟩:=hrel
  by_cases hk:k<22
  ·have q1:decide ((k:Int)<22)=true:=by simp;omega
   obtain ⟨x,hx⟩:∃x,guessM T k=x:=⟨_,rfl⟩
   have hok:x.ok:=by rw [←hx];exact guessM_ok T hk
   have HG:Hid (Calls prog 66 #[.string (bA' T), .int .i64 k] wr fun e w'=>e= .returned x.agg∧Fr No wr w'):=by rw [←hx];exact HGU.out k wr hk HI.out.1
   have HX:Hid (∀W,Fr No w W→Calls prog 67 #[x.agg] W fun e w'=>e= .returned (encV x)∧Fr No W w'):=fun W hW=>HEN.out x W hok hW
   have HN:Hid (decodeFrom T (kindsFrom k)=match encodeM x with|some b=>if b.isPrefixOf T then some (x,b.length) else decodeFrom T (kindsFrom (k+1))|none=>decodeFrom T (kindsFrom (k+1))):=by
    rw [kinds_step k hk1 hk,←hx];exact Lib.hid rfl
   have ex:=HEX.out
   have HKS:Hid (∀W,Fr No wr W→Fr No w W∧CellsAt W bx 0 XI.zero.cells∧∀j,W.frozen? ⟨bx,j,none⟩=false):=fun W hW=>⟨HI.out.1.trans hW,hW.cells HI.out.2.1 id,fun j=>by rw [cells_frozen hW (World.block_lt_of_cell? wr _ (XI.at HI.out.2.1).1) id];exact HI.out.2.2 j⟩
   simp only [XI.agg] at HG HX
   clear hx hok
   cases he:encodeM x with
   |none=>
    rw [show encV x= .tuple #[.string ⟨#[]⟩, .int .i64 2] by unfold encV;rw [he];rfl] at HX
    have HE2:Hid (A=decodeFrom T (kindsFrom (k+1))):=by rw [HE.out,HN.out,he];exact Lib.hid rfl
    clear he HN HE
    go_wp2_with (first
     |(go_at_call 66;(with_reducible refine (HG.out).mono ?_);rintro e w2 ⟨rfl,hf2⟩;have HF2:Hid (Fr No wr w2):=Lib.hid hf2;clear hf2)
     |(go_at_call 67;(with_reducible refine (HX.out _ (HI.out.1.trans ((HF2.out).alloc _))).mono ?_);rintro e w3 ⟨rfl,hf3⟩;have HF3:Hid (Fr No wr w3):=Lib.hid (((HF2.out).alloc _).trans hf3);clear hf3))
    go_roundw
    case rel=>exact ⟨k+1,by omega,by omega,by go_num,HKS.out _ HF3.out,HE2⟩
    case measure=>simp [intOf]<;>omega
   |some b=>
    have HX':Hid (∀W,Fr No w W→Calls prog 67 #[.agg #[.int .i64 x.kind, .int .i64 x.alu, .int .i64 x.cond, .int .i64 x.size, .bool x.wide, .bool x.short, .int .i64 x.dst, .int .i64 x.src, .int .i32 x.disp, .int .i32 x.rel, .int .i64 x.imm]] W fun e w'=>e= .returned (.tuple #[.string (bA' b), .int .i64 0])∧Fr No W w'):=by
     rw [show encV x= .tuple #[.string (bA' b), .int .i64 0] by unfold encV;rw [he];rfl] at HX
     exact HX
    have HP:Hid (∀W,Calls prog 68 #[.string (bA' T), .string (bA' b)] W fun e w'=>e= .returned (.bool (b.isPrefixOf T))∧W=w'):=fun W=>chasp_any T b W
    have sb:(bA' b).size=b.length:=sizeJ b
    cases hp:b.isPrefixOf T with
    |false=>
     rw [hp] at HP
     have HE2:Hid (A=decodeFrom T (kindsFrom (k+1))):=by rw [HE.out,HN.out,he];simp only [hp,Bool.false_eq_true,if_false];exact Lib.hid trivial
     clear he HN HE HX hp
     go_wp2_with (first
      |(go_at_call 66;(with_reducible refine (HG.out).mono ?_);rintro e w2 ⟨rfl,hf2⟩;have HF2:Hid (Fr No wr w2):=Lib.hid hf2;clear hf2)
      |(go_at_call 67;(with_reducible refine (HX'.out _ (HI.out.1.trans ((HF2.out).alloc _))).mono ?_);rintro e w3 ⟨rfl,hf3⟩;have HF3:Hid (Fr No wr w3):=Lib.hid (((HF2.out).alloc _).trans hf3);clear hf3)
      |(go_at_call 68;(with_reducible refine (HP.out _).mono ?_);rintro e w4 ⟨rfl,rfl⟩))
     go_roundw
     case rel=>exact ⟨k+1,by omega,by omega,by go_num,HKS.out _ HF3.out,HE2⟩
     case measure=>simp [intOf]<;>omega
    |true=>
     rw [hp] at HP
     have HA:Hid (A=some (x,b.length)):=by rw [HE.out,HN.out,he];simp only [hp,if_true];exact Lib.hid trivial
     clear he HN HE HX hp
     go_wp2_with (first
      |(go_at_call 66;(with_reducible refine (HG.out).mono ?_);rintro e w2 ⟨rfl,hf2⟩;have HF2:Hid (Fr No wr w2):=Lib.hid hf2;clear hf2)
      |(go_at_call 67;(with_reducible refine (HX'.out _ (HI.out.1.trans ((HF2.out).alloc _))).mono ?_);rintro e w3 ⟨rfl,hf3⟩;have HF3:Hid (Fr No wr w3):=Lib.hid (((HF2.out).alloc _).trans hf3);have HX3:Hid (CellsAt w3 w2.heap.size 0 x.cells):=Lib.hid (hf3.cells (CellsAt.new w2 x.cells _) id);obtain ⟨d0,d1,d2,d3,d4,d5,d6,d7,d8,d9,d10⟩:=XI.at HX3.out;obtain ⟨r0,r1,r2,r3,r4,r5,r6,r7,r8,r9,r10⟩:=XI.at (HKS.out _ HF3.out).2.1;have o0:=(HKS.out _ HF3.out).2.2;clear hf3)
      |(go_at_call 68;(with_reducible refine (HP.out _).mono ?_);rintro e w4 ⟨rfl,rfl⟩))
     have HPX:=Lib.hid (putX_cells (HKS.out _ HF3.out).1 (by rw [HB.out];exact Nat.le_refl _) (HKS.out _ HF3.out).2.1 x)
     obtain ⟨W6,hW6⟩:∃W6,W6=putX w3 bx x:=⟨_,rfl⟩
     rw [←hW6] at HPX
     have g:=XI.at HPX.out.1
     refine Eq.mp (congrArg (fun W=>bodyPost prog Tryz.f35 _ Exit.ret _ W) (show W6=_ from hW6)) ?_
     clear hW6 d0 d1 d2 d3 d4 d5 d6 d7 d8 d9 d10 r0 r1 r2 r3 r4 r5 r6 r7 r8 r9 r10 o0
     obtain ⟨c0,c1,c2,c3,c4,c5,c6,c7,c8,c9,c10⟩:=g
     refine bodyPost_ret (v:= .tuple #[x.agg, .int .i64 b.length, .int .i64 0]) (by simp [results,results35,go_sem,XI.agg, *]) rfl ⟨by rw [HA.out];rfl,HPX.out.2⟩
  ·obtain rfl:k=22:=by omega
   have HA:Hid (A=none):=by rw [HE.out,kinds_end];exact Lib.hid rfl
   obtain ⟨r0,r1,r2,r3,r4,r5,r6,r7,r8,r9,r10⟩:=XI.at HI.out.2.1
   have o0:=HI.out.2.2
   have HPX:=Lib.hid (putX_cells HI.out.1 (by rw [HB.out];exact Nat.le_refl _) HI.out.2.1 XI.zero)
   go_wp2_with fail
   obtain ⟨W6,hW6⟩:∃W6,W6=putX wr bx XI.zero:=⟨_,rfl⟩
   rw [←hW6] at HPX
   have g:=XI.at HPX.out.1
   refine Eq.mp (congrArg (fun W=>bodyPost prog Tryz.f35 _ Exit.ret _ W) (show W6=_ from hW6)) ?_
   clear hW6 r0 r1 r2 r3 r4 r5 r6 r7 r8 r9 r10 o0
   obtain ⟨c0,c1,c2,c3,c4,c5,c6,c7,c8,c9,c10⟩:=g
   refine bodyPost_ret (v:= .tuple #[XI.zero.agg, .int .i64 0, .int .i64 110]) (by simp [results,results35,go_sem,XI.agg, *]) rfl ⟨by rw [HA.out];rfl,HPX.out.2⟩
theorem XI.info(x:XI):(prog.info? 48).map (·.size)=some x.cells.length:=by rw [XI.cells_len];kernel_rfl
theorem xcells_one{x:XI}(v:Value)(h:v∈x.cells):v.oneCell'=true:=by
 unfold XI.cells at h
 simp only [List.mem_cons,List.not_mem_nil,or_false] at h
 rcases h with rfl|rfl|rfl|rfl|rfl|rfl|rfl|rfl|rfl|rfl|rfl<;>rfl
structure XB(w:World)(b:Nat)(x:XI):Prop where
 cells:CellsAt w b 0 x.cells
 open_:∀j,w.frozen? ⟨b,j,none⟩=false
theorem XB.lt{w:World}{b x}(h:XB w b x):b<w.heap.size:=World.block_lt_of_cell? w _ (XI.at h.cells).1
theorem XB.fr{T w w' b x}(h:XB w b x)(hf:Fr T w w')(hb:¬T b):XB w' b x:=⟨hf.cells h.cells hb,fun j=>by rw [cells_frozen hf h.lt hb];exact h.open_ j⟩
theorem XB.new(w:World)(x:XI)(t):XB (w.alloc (.cells x.cells.toArray t)) w.heap.size x:=⟨CellsAt.new w _ _,fun j=>World.frozen?_alloc_new _ _ _ _⟩
theorem XB.there{w:World}{b}{x:XI}(h:XB w b x):w.there b 0 11:=fun j hj=>by
 rw [Nat.zero_add]
 refine ⟨?_,h.open_ j⟩
 have:=h.cells j _ (List.getElem?_eq_getElem (show j<x.cells.length by rw [XI.cells_len];exact hj))
 rw [Nat.zero_add] at this
 rw [this]
 rfl
theorem XB.load{w b}{x:XI}(hS:XB w b x){ops rest}{op:Oper}{a:Act}{Q}(hgd:op.guard=none)(px)(ho:op.op= .load 48 px)(hx:a.eval px= .pointer (some ⟨b,0,none⟩))(h:wpList prog ops Q rest (a.put op.dst x.agg) w):wpList prog ops Q (op::rest) a w:=
 wpList_load_mid hgd 48 px ho b 0 hx x.cells _ hS.cells underlying48 rfl (XI.info x) h
theorem XB.store{w b}{x y:XI}(h:XB w b x){ops rest}{op:Oper}{a:Act}{Q}(hgd:op.guard=none)(px py)(ho:op.op= .store 48 px py)(hx:a.eval px= .pointer (some ⟨b,0,none⟩))(hy:a.eval py=y.agg)(k:∀W',XB W' b y→Fr (fun k=>k=b) w W'→wpList prog ops Q rest (a.put op.dst undef) W'):wpList prog ops Q (op::rest) a w:=
 wpList_store_mid hgd 48 px py ho b 0 y.cells.toArray hx hy (by rw [List.size_toArray,XI.cells_len];exact h.there) (by rw [List.size_toArray];exact XI.info y) (all_oneCell_toArray xcells_one)
  (k _ ⟨World.rangeAt_setCells_same w b 0 y.cells (by rw [XI.cells_len];exact h.there),fun j=>by rw [World.frozen?_setCells];exact h.open_ j⟩ ((Fr.refl (fun k=>k=b) w).setCells (.inr rfl) 0 _))
theorem results_x3{fn:Func}{a t u}(h:fn.results= #[.cell a 48, .tmp t, .tmp u])(tmps:Array Value)(w b)(x:XI)(hS:XB w b x)(ha:tmps.getD a undef= .pointer (some ⟨b,0,none⟩)):
  (results fn tmps).run prog w= .ok (.tuple #[x.agg,tmps.getD t undef,tmps.getD u undef]) w:=by
 have hl:=run_loadVar_mid w b 0 48 x.cells _ hS.cells underlying48 rfl (XI.info x)
 have ha':tmps[a]?.getD undef= .pointer (some ⟨b,0,none⟩):=by rw [←Array.getD_eq_getD_getElem?];exact ha
 have e:(.agg x.cells.toArray:Value)=x.agg:=rfl
 rw [e] at hl
 simp [results,h,ha',hl,asAddr]
structure FtS(w0:World)(b:Nat)(x:XI)(w:World):Prop where
 fr:Fr No w0 w
 x:XB w b x
 lo:w0.heap.size≤b
theorem FtS.start(w:World)(t):FtS w w.heap.size XI.zero (w.alloc (.cells XI.zero.cells.toArray t)):=⟨fr_alloc _ _,XB.new w _ _,Nat.le_refl _⟩
theorem FtS.no{w0 w w' b x}(h:FtS w0 b x w)(hf:Fr No w w'):FtS w0 b x w':=⟨h.fr.trans hf,h.x.fr hf id,h.lo⟩
theorem FtS.store{w0 w:World}{b x}(h:FtS w0 b x w){y:XI}{ops rest}{op:Oper}{a:Act}{Q}(hgd:op.guard=none)(px py)(ho:op.op= .store 48 px py)(hx:a.eval px= .pointer (some ⟨b,0,none⟩))(hy:a.eval py=y.agg)(k:∀W',Hid (FtS w0 b y W')→wpList prog ops Q rest (a.put op.dst undef) W'):wpList prog ops Q (op::rest) a w:=
 h.x.store hgd px py ho hx hy fun W' h1 h2=>k W' ⟨(h.fr.any.trans (h2.mono fun k _ hk=>by show w0.heap.size≤k;have:=h.lo;omega):Fr (From w0) w0 W').ours,h1,h.lo⟩
def fetchV:Option (XI×Nat)→Value
 |some q=> .tuple #[q.1.agg, .int .u64 q.2, .int .i64 0]
 |none=> .tuple #[XI.zero.agg, .int .u64 0, .int .i64 110]
theorem fetch_any(code:List UInt8)(hl:code.length≤1000000)(pc:Nat)(w:World)(h:MachAt w):
  Calls prog 16 #[.string (bA' code), .int .u64 pc] w fun e w'=>e= .returned (fetchV (fetchM code pc))∧Fr No w w':=by
 have sz:(bA' code).size=code.length:=sizeJ code
 obtain ⟨off,hoff⟩:∃off:Nat,((pc:Int)-4194304)%18446744073709551616=(off:Int):=⟨(((pc:Int)-4194304)%18446744073709551616).toNat,by omega⟩
 have hoff2:off<18446744073709551616:=by omega
 have e1:IntKind.u64.wrap ((pc:Int)-4194304)=(off:Int):=by rw [IntKind.wrap_u64];exact hoff
 have e2:IntKind.u64.wrap ((code.length:Int))=(code.length:Int):=by rw [IntKind.wrap_u64];omega
 have HS:Hid (∀t,_):=FtS.start w
 have HQ:Hid (fetchM code pc=if (code.length:Int)≤(off:Int) then none else match decodeM (code.drop off) with|none=>none|some q=>some (q.1,(pc+q.2)%18446744073709551616)):=by
  unfold fetchM
  dsimp only
  rw [hoff]
  exact Lib.hid rfl
 rw [HQ.out]
 clear HQ hoff
 by_cases hlt:code.length≤off
 ·rw [if_pos (by omega)]
  have g1:decide ((off:Int)≥(code.length:Int))=true:=by simp;omega
  have g2:decide ((code.length:Int)≤(off:Int))=true:=by simp;omega
  have g3:decide (code.length≤off)=true:=by simp;omega
  clear hlt hoff2 hl h
  go_enter func16,ntmps16
  go_upto_region 1 with fail
  refine wp_world (fun W1=>Hid (FtS w w.heap.size XI.zero W1)) (by exact HS.out _) ?_
  intro W1 HL
  clear HS
  go_wp2_with (refine HL.out.store (y:=XI.zero) rfl (.tmp 4) (.tmp 14) rfl rfl rfl ?_;intro W9 HL)
  exact bodyPost_ret (results_x3 results16 _ _ _ _ HL.out.x rfl) rfl ⟨rfl,HL.out.fr⟩
 ·rw [if_neg (by omega)]
  have g1:decide ((off:Int)≥(code.length:Int))=false:=by simp;omega
  have g2:decide ((code.length:Int)≤(off:Int))=false:=by simp;omega
  have g3:decide (code.length≤off)=false:=by simp;omega
  have e3:IntKind.i64.wrap (off:Int)=(off:Int):=IntWalk.i64_in _ (by omega)
  have HD:Hid (∀W,Fr No w W→Calls prog 35 #[.string (bA' code), .int .i64 off] W fun e w'=>e= .returned (decV (decodeM (code.drop off)))∧Fr No W w'):=fun W hW=>decode_any code off (by omega) hl W (h.fr hW)
  clear hlt hoff2 h
  cases hd:decodeM (code.drop off) with
  |none=>
   rw [hd] at HD
   simp only [decV] at HD
   clear hd hl
   go_enter func16,ntmps16
   go_upto_region 1 with fail
   refine wp_world (fun W1=>Hid (FtS w w.heap.size XI.zero W1)) (by exact HS.out _) ?_
   intro W1 HL
   clear HS
   go_wp2_with (first
    |(go_at_call 35;(with_reducible refine (HD.out _ HL.out.fr).mono ?_);rintro e w2 ⟨rfl,hf2⟩;replace HL:=Lib.hid (HL.out.no hf2);clear hf2)
    |(refine HL.out.store (y:=XI.zero) rfl (.tmp 4) (.tmp 21) rfl rfl rfl ?_;intro W8 HL)
    |(refine HL.out.store (y:=XI.zero) rfl (.tmp 4) (.tmp 26) rfl rfl rfl ?_;intro W9 HL))
   exact bodyPost_ret (results_x3 results16 _ _ _ _ HL.out.x rfl) rfl ⟨rfl,HL.out.fr⟩
  |some q=>
   obtain ⟨x,n⟩:=q
   have hn:n<9223372036854775807:=by
    obtain ⟨_,t,_,hp,hn⟩:=decode_is hd
    have:=hp.length_le
    rw [List.length_drop] at this
    omega
   have e4:IntKind.u64.wrap (n:Int)=(n:Int):=by rw [IntKind.wrap_u64];omega
   have e5:IntKind.u64.wrap ((pc:Int)+(n:Int))=(((pc+n)%18446744073709551616:Nat):Int):=by rw [IntKind.wrap_u64];omega
   rw [hd] at HD
   simp only [decV] at HD
   clear hd hn hl
   dsimp only
   generalize (pc+n)%18446744073709551616=P at*
   go_enter func16,ntmps16
   go_upto_region 1 with fail
   refine wp_world (fun W1=>Hid (FtS w w.heap.size XI.zero W1)) (by exact HS.out _) ?_
   intro W1 HL
   clear HS
   go_wp2_with (first
    |(go_at_call 35;(with_reducible refine (HD.out _ HL.out.fr).mono ?_);rintro e w2 ⟨rfl,hf2⟩;replace HL:=Lib.hid (HL.out.no hf2);clear hf2)
    |(refine HL.out.store (y:=x) rfl (.tmp 4) (.tmp 21) rfl rfl rfl ?_;intro W8 HL)
    |(refine HL.out.x.load rfl (.tmp 4) rfl rfl ?_)
    |(refine HL.out.store (y:=x) rfl (.tmp 4) (.tmp 28) rfl rfl rfl ?_;intro W9 HL))
   exact bodyPost_ret (results_x3 results16 _ _ _ _ HL.out.x rfl) rfl ⟨rfl,HL.out.fr⟩
theorem begin_any{w0 wr:World}{N bw mb ds p RL}{W:HW}(h:WM w0 N bw mb ds p RL W wr):
  Calls prog 14 #[.pointer (some ⟨bw,0,none⟩)] wr fun e w'=>StepTo w0 wr N bw mb ds p RL (beginM W) e w':=by
 have HC:Hid (∀W',Fr No wr W'→Calls prog 33 #[.pointer (some ⟨mb,0,none⟩), .int .u64 262264, .int .i64 8, .int .u64 10485760] W' fun e w'=>e= .returned (.int .i64 (mwrite W.m 262264 8 10485760).2)∧Hid (WM w0 N bw mb ds p RL {W with m:=(mwrite W.m 262264 8 10485760).1} w')∧Hid (Fr (Zof w0 N RL) W' w')):=fun W' hW=>(h.to hW).write 262264 8 10485760 (by decide) (by decide)
 have HM:Hid (∀W',Fr No wr W'→_):=fun W' hW=>(h.to hW).memory
 have HB:=Lib.hid h.bound
 have HQ:Hid (beginM W=(exE (mwrite W.m 262264 8 10485760).2 {ST.zero with r:=ST.zero.r.set 4 262264,pc:=4194304},{W with m:=(mwrite W.m 262264 8 10485760).1})):=Lib.hid rfl
 rw [HQ.out]
 have HS:Hid (∀t,SAt (wr.alloc (.cells ST.zero.cells.toArray t)) wr.heap.size ST.zero):=fun t=>SAt.new wr ST.zero_ok t
 generalize {W with m:=(mwrite W.m 262264 8 10485760).1}=V2 at*
 generalize (mwrite W.m 262264 8 10485760).2=E at*
 clear h HQ
 go_enter func14,ntmps14
 go_upto_region 1 with fail
 refine wp_world (fun W1=>Hid (Fr No wr W1∧SAt W1 wr.heap.size ST.zero)) (by exact ⟨fr_alloc _ _,HS.out _⟩) ?_
 intro W1 HL
 clear HS
 go_upto_region 4 with (first
  |(go_at_call 13;(with_reducible refine (HM.out _ HL.out.1).mono ?_);rintro e w1 ⟨rfl,rfl⟩)
  |(go_at_call 33;(with_reducible refine (HC.out _ HL.out.1).mono ?_);rintro e w2 ⟨rfl,hw2,hf2⟩))
 have hz:¬Zof w0 N RL wr.heap.size:=fun hz=>by have:=hz.2;have:=HB.out;omega
 have hs2:=Lib.hid (HL.out.2.fr hf2.out hz)
 have HF2:Hid (Fr (fun k=>Zof w0 N RL k∨wr.heap.size≤k) wr w2):=Lib.hid (HL.out.1.any.trans (hf2.out.mono fun _ _ hk=> .inl hk))
 clear hf2 HL hz HC HM
 rcases Int.decEq E 0 with hE|hE
 ·have hE1:(E !=0)=true:=by rw [bne_iff_ne];exact hE
  go_wp2_with (refine hs2.out.store ST.zero_ok rfl (.tmp 2) (.tmp 14) rfl rfl rfl ?_;intro W9 h9 hf9)
  exact bodyPost_ret (results_st2 results14 _ _ _ ST.zero h9 rfl) rfl ⟨by rw [show exE E _= .error E from if_neg hE];rfl,hw2.out.beside hf9 (fun k hk=>by rw [hk];exact HB.out),(HF2.out.trans (hf9.mono fun k _ hk=> .inr (by omega))).mono fun k hk hz=>hz.resolve_right (by omega)⟩
 ·have hE1:(E !=0)=false:=by rw [hE];rfl
  have oo:=hs2.out.open_
  have r4:=hs2.out.reg (i:=4) (by decide)
  have c20:=hs2.out.at.2.2.2.2
  go_upto_region 7 with fail
  have h5:=Lib.hid ((hs2.out.setReg (i:=4) (v:=262264) (by decide) (by decide)).setPC (v:=4194304) (by decide))
  have f5:Hid (Fr (fun k=>k=wr.heap.size) w2 ((w2.setCell ⟨wr.heap.size,4,none⟩ (.int .u64 262264)).setCell ⟨wr.heap.size,20,none⟩ (.int .u64 4194304))):=Lib.hid (((Fr.refl (fun k=>k=wr.heap.size) w2).setCell (p:=⟨wr.heap.size,4,none⟩) (.inr rfl) _).setCell (p:=⟨wr.heap.size,20,none⟩) (.inr rfl) _)
  obtain ⟨W5,hW5⟩:∃W5,W5=((w2.setCell ⟨wr.heap.size,4,none⟩ (.int .u64 262264)).setCell ⟨wr.heap.size,20,none⟩ (.int .u64 4194304)):=⟨_,rfl⟩
  have e5:W5=((w2.setCell ⟨wr.heap.size,4,none⟩ (.int .u64 ((262264:Nat):Int))).setCell ⟨wr.heap.size,20,none⟩ (.int .u64 ((4194304:Nat):Int))):=hW5
  rw [←e5] at h5
  rw [←hW5] at f5 ⊢
  clear hW5 e5 oo r4 c20
  go_wp2_with (first
   |(refine h5.out.load rfl (.tmp 2) rfl rfl ?_)
   |(refine h5.out.store h5.out.ok rfl (.tmp 2) (.tmp 19) rfl rfl rfl ?_;intro W9 h9 hf9))
  have hf:Fr (fun k=>k=wr.heap.size) w2 W9:=f5.out.trans hf9
  exact bodyPost_ret (results_st2 results14 _ _ _ _ h9 rfl) rfl ⟨by rw [show exE E _= .ok _ from if_pos hE];rfl,hw2.out.beside hf (fun k hk=>by rw [hk];exact HB.out),(HF2.out.trans (hf.mono fun k _ hk=> .inr (by omega))).mono fun k hk hz=>hz.resolve_right (by omega)⟩
end Go.Proofs.YtfmcmfiebehhiaaGreatDoor
namespace Go.Proofs.YtfmcmfiebehhiaaGreatDoor
open Go.Proofs.Tryz
section
variable {P:Program} {ops:Array Oper} {Q:Exit→Act→World→Prop}
def dstOf(ops:Array Oper)(j:Nat):Option Tmp:=(ops[j]?).bind (·.dst)
def left(ops:Array Oper)(listed:Array Bool):Nat:=((List.range ops.size).filter fun i=> !listed.getD i false).length
theorem left_step{listed:Array Bool}{i}(hi:i<ops.size)(hl:listed.size=ops.size)(h:listed.getD i false=false):left ops (listed.setIfInBounds i true)+1≤left ops listed:=by
 unfold left
 have h1:∀l:List Nat,l.Nodup→((l.filter fun k=> !(listed.setIfInBounds i true).getD k false).length+(if i∈l then 1 else 0)=(l.filter fun k=> !listed.getD k false).length):=by
  intro l
  induction l with
  |nil=>intro _;simp
  |cons x l ih=>
   intro hn
   obtain ⟨hx,hn⟩:=List.nodup_cons.1 hn
   have ih:=ih hn
   by_cases hxi:x=i
   ·subst hxi
    rw [if_neg hx] at ih
    have e1:(listed.setIfInBounds x true).getD x false=true:=by simp [hl,hi]
    simp only [List.filter_cons,e1,h,Bool.not_true,Bool.false_eq_true,if_false,Bool.not_false,if_true,List.length_cons,List.mem_cons,true_or]
    omega
   ·have e1:(listed.setIfInBounds i true).getD x false=listed.getD x false:=getD_set_ne false (Ne.symm hxi)
    have e2:(i∈x::l)=(i∈l):=by simp [Ne.symm hxi]
    simp only [List.filter_cons,e1,e2]
    cases hc:listed.getD x false
    ·simp only [Bool.not_false,if_true,List.length_cons];omega
    ·simp only [Bool.not_true,Bool.false_eq_true,if_false];omega
 have:=h1 (List.range ops.size) List.nodup_range
 rw [if_pos (List.mem_range.2 hi)] at this
 omega
theorem left_zero{listed:Array Bool}(h:left ops listed=0):∀i,i<ops.size→listed.getD i false=true:=by
 intro i hi
 unfold left at h
 have:=List.eq_nil_of_length_eq_zero h
 have h2:=List.filter_eq_nil_iff.1 this i (List.mem_range.2 hi)
 simpa using h2
theorem getD_set_self{listed:Array Bool}{i}(h:i<listed.size):(listed.setIfInBounds i true).getD i false=true:=by simp [h]
def puts(l:List (Tmp×Value))(a:Act):Act:=l.foldl (fun a p=>a.put (some p.1) p.2) a
def st(pre:List (Tmp×Value))(dB dC:Tmp)(a:Act)(v:Value):Act:=((puts pre a).put (some dB) v).put (some dC) v
def Vals(A:Act):List (Tmp×Value)→Prop
 | []=>True
 |p::l=>A.tmps[p.1]? =some p.2∧Vals A l
theorem vals_of{A:Act}:∀{l:List (Tmp×Value)},(∀p∈l,A.tmps[p.1]? =some p.2)→Vals A l
 | [],_=>trivial
 |p::_,h=>⟨h p List.mem_cons_self,vals_of fun q hq=>h q (List.mem_cons_of_mem _ hq)⟩
theorem of_vals{A:Act}:∀{l:List (Tmp×Value)},Vals A l→∀p∈l,A.tmps[p.1]? =some p.2
 |p::l,h,q,hq=>by
  rcases List.mem_cons.1 hq with rfl|hq
  ·exact h.1
  ·exact of_vals h.2 q hq
end
end Go.Proofs.YtfmcmfiebehhiaaGreatDoor

