/- firewalllaw13.Code: the bytes of instructions. firewalllaw13.comes: what code comes to in a bare world. firewalllaw13.runs: the chapter's examples hold. (printed by mkruns.py) The listed variable .. -/
import Derived.Test.YtjcgmhlbkheadaaGreatDoorCore38
import Derived.Test.YtjcgmhlbkheadaaGreatDoorCore41
import Derived.Test.YtjcgmhlbkheadaaGreatDoorCore35
import Derived.Test.YtjcgmhlbkheadaaGreatDoorCore15
import Derived.ProofKit
import Derived.LaidMore
import Derived.OpenShut
import Derived.Stop.Joined
import Derived.Test.YtjcgmhlbkheadaaGreatDoorCore18
import Derived.Test.YtjcgmhlbkheadaaGreatDoorRows
import Derived.Lib.LaidU8T
import Derived.PinnedBridge
import Derived.HandedShaped
import Derived.RowKitVeiled
set_option linter.all false
set_option linter.unusedVariables false
set_option linter.unusedSimpArgs false
set_option maxRecDepth 100000
set_option maxHeartbeats 4000000
namespace Go.Proofs.YtjcgmhlbkheadaaGreatDoor
open Go.RowKit
def xflat(l:List XI):List Value:=l.flatMap XI.cells
def XsIn(w:World)(v:Value)(l:List XI):Prop:=(l= []∧∃a c,v= .slice a 0 c)∨∃g off cap,v= .slice (some ⟨g,off,none⟩) l.length cap∧CellsAt w g off (xflat l)
theorem XsIn.fr{w w':World}{v:Value}{l:List XI}(h:XsIn w v l)(hf:Fr No w w'):XsIn w' v l:=by
 rcases h with h|⟨g,off,cap,rfl,hc⟩
 ·exact .inl h
 ·exact .inr ⟨g,off,cap,rfl,hf.cells hc id⟩
theorem xflat_len(l:List XI):(xflat l).length=l.length*11:=by
 induction l with
 |nil=>rfl
 |cons x l ih=>
  unfold xflat at*
  rw [List.flatMap_cons,List.length_append,ih,XI.cells_len,List.length_cons]
  omega
theorem xflat_at{l:List XI}{k:Nat}{x:XI}(h:l[k]? =some x){j:Nat}{v:Value}(hj:x.cells[j]? =some v):(xflat l)[k*11+j]? =some v:=by
 induction l generalizing k with
 |nil=>simp at h
 |cons y l ih=>
  have hjl:j<11:=by
   have:=(List.getElem?_eq_some_iff.1 hj).1
   rwa [XI.cells_len] at this
  unfold xflat at*
  rw [List.flatMap_cons]
  cases k with
  |zero=>
   simp only [List.getElem?_cons_zero,Option.some.injEq] at h
   subst h
   rw [List.getElem?_append_left (by rw [XI.cells_len];omega),Nat.zero_mul,Nat.zero_add]
   exact hj
  |succ k=>
   rw [List.getElem?_append_right (by rw [XI.cells_len];omega),XI.cells_len,show (k+1)*11+j-11=k*11+j by omega]
   exact ih (by simpa using h)
theorem xflat_cell{w:World}{g off:Nat}{l:List XI}(h:CellsAt w g off (xflat l)){k:Nat}{x:XI}(hx:l[k]? =some x):CellsAt w g (off+k*11) x.cells:=fun j v hj=>by
 rw [Nat.add_assoc]
 exact h _ _ (xflat_at hx hj)
theorem XI.atO{w:World}{b o:Nat}{x:XI}(h:CellsAt w b o x.cells):w.cell? ⟨b,o,none⟩=some (.int .i64 x.kind)∧w.cell? ⟨b,o+1,none⟩=some (.int .i64 x.alu)∧w.cell? ⟨b,o+2,none⟩=some (.int .i64 x.cond)∧w.cell? ⟨b,o+3,none⟩=some (.int .i64 x.size)∧w.cell? ⟨b,o+4,none⟩=some (.bool x.wide)∧w.cell? ⟨b,o+5,none⟩=some (.bool x.short)∧w.cell? ⟨b,o+6,none⟩=some (.int .i64 x.dst)∧w.cell? ⟨b,o+7,none⟩=some (.int .i64 x.src)∧w.cell? ⟨b,o+8,none⟩=some (.int .i32 x.disp)∧w.cell? ⟨b,o+9,none⟩=some (.int .i32 x.rel)∧w.cell? ⟨b,o+10,none⟩=some (.int .i64 x.imm):=
 ⟨h 0 _ rfl,h 1 _ rfl,h 2 _ rfl,h 3 _ rfl,h 4 _ rfl,h 5 _ rfl,h 6 _ rfl,h 7 _ rfl,h 8 _ rfl,h 9 _ rfl,h 10 _ rfl⟩
theorem enc_len(x:XI):((encodeM x).getD []).length≤25:=by
 unfold encodeM
 split
 ·simp
 ·simp only [Option.getD_some,List.length_append]
  have h1:(if x.kind=14∧x.size=2 then ([0x66]:List UInt8) else []).length≤1:=by split<;>simp
  have h2:∀m n:Int,(rexM x m n).length≤1:=fun m n=>by
   have q:∀(c:Prop) [Decidable c] (b:UInt8),(if c then ([]:List UInt8) else [b]).length≤1:=fun c _ b=>by split<;>simp
   unfold rexM
   exact q _ _
  have h3:(opcodeM x).length≤3:=by
   unfold opcodeM loadsM storesM
   repeat' split
   all_goals first|simp|skip
   have:∀k:Nat,(formsL.getD k FI.none).op.length≤3:=by
    intro k
    by_cases hk:k<22
    ·revert k;decide+kernel
    ·rw [List.getD_eq_getElem?_getD,List.getElem?_eq_none (by simp [formsL];omega)]
     decide
   exact this _
  have h4:(operandsM x (formM x.kind)).1.length≤10:=operands_len
  have h5:(bytesI x.imm (formM x.kind).imm).length≤8:=by
   unfold bytesI
   rw [leBytes_length]
   obtain ⟨_,h⟩:=forms_behind x.kind.toNat
   unfold formM
   omega
  have h2':=h2 (operandsM x (formM x.kind)).2.1 (operandsM x (formM x.kind)).2.2
  omega
theorem codeM_take(l:List XI)(k:Nat)(x:XI)(h:l[k]? =some x):codeM (l.take (k+1))=codeM (l.take k)++(encodeM (putM x)).getD []:=by
 unfold codeM
 rw [List.take_add_one,h,List.flatMap_append]
 simp
theorem codeM_len(l:List XI):(codeM l).length≤l.length*25:=by
 induction l with
 |nil=>simp [codeM]
 |cons x l ih=>
  have:=enc_len (putM x)
  unfold codeM at*
  rw [List.flatMap_cons,List.length_append,List.length_cons]
  omega
theorem code_any(l:List XI)(v:Value)(w:World)(h:XsIn w v l)(hl:l.length≤1000):Calls Tryz.prog 8 #[v] w fun e w'=>e= .returned (.string (bA' (codeM l)))∧Fr No w w':=by
 rcases h with ⟨rfl,a,c,rfl⟩|⟨g,off,cap,rfl,hc⟩
 ·go_enter Tryz.func8,Tryz.ntmps8
  go_wp2_with fail
  refine wp_loop_rounds 1 ?_
  rw [rounds_succ]
  go_wp2_with fail
  go_ret
  exact ⟨rfl,Fr.refl _ _⟩
 ·have HC:=Lib.hid hc
  obtain ⟨n,hn⟩:∃n,l.length=n:=⟨_,rfl⟩
  have HN:=Lib.hid hn
  rw [hn] at hl ⊢
  have HP:Hid (∀x W,Calls Tryz.prog 28 #[XI.agg x] W fun e w'=>e= .returned (putM x).agg∧Fr No W w'):=fun x W=>put_any x W
  have HE:Hid (∀x W,Calls Tryz.prog 27 #[XI.agg x] W fun e w'=>e= .returned (encV x)∧Fr No W w'):=fun x W=>rencode_any x W
  clear hc hn
  go_enter Tryz.func8,Tryz.ntmps8
  go_wp2_with fail
  go_loopw [3,4] (fun s i wr=>∃k:Nat,k≤n∧s= .string (bA' (codeM (l.take k)))∧i= .int .i64 k∧Hid (Fr No w wr)) (fun _ i _=>n-(intOf i).toNat)
  case atStart=>exact ⟨0,Nat.zero_le _,rfl,rfl,Fr.refl _ _⟩
  case round=>
   obtain ⟨k,hk,rfl,rfl,HF⟩:=hrel
   by_cases hlt:k<n
   ·obtain ⟨x,hx⟩:∃x,l[k]? =some x:=⟨l[k]'(by rw [HN.out];exact hlt),List.getElem?_eq_getElem _⟩
    have k0:=xflat_cell (HF.out.cells HC.out id) hx
    have HT:Hid (codeM (l.take (k+1))=codeM (l.take k)++(encodeM (putM x)).getD []):=codeM_take l k x hx
    have z1:=codeM_len (l.take k)
    have z2:=enc_len (putM x)
    rw [List.length_take] at z1
    have HP1:=Lib.hid (HP.out x)
    obtain ⟨t,ht⟩:∃t,(encodeM (putM x)).getD []=t:=⟨_,rfl⟩
    have HE1:Hid (∀W,Calls Tryz.prog 27 #[(putM x).agg] W fun e w'=>∃er,e= .returned (.tuple #[.string (bA' t), .int .i64 er])∧Fr No W w'):=fun W=>(HE.out (putM x) W).mono fun e w' ⟨he,hf⟩=>⟨if encodeM (putM x)=none then 2 else 0,by rw [he];unfold encV;rw [ht],hf⟩
    have a1:=addL (codeM (l.take k)) t (by omega) (by rw [←ht];omega)
    rw [ht] at HT z2
    rw [←HT.out] at a1
    generalize codeM (l.take k)=A at*
    obtain ⟨y,hy⟩:∃y,putM x=y:=⟨_,rfl⟩
    rw [hy] at HP1 HE1
    clear hy ht z1 z2 hx HP HE
    obtain ⟨c0,c1,c2,c3,c4,c5,c6,c7,c8,c9,c10⟩:=XI.atO k0
    unfold XI.agg at HP1 HE1
    go_wp2_with (first
     |(go_at_call 28;(with_reducible refine (HP1.out _).mono ?_);rintro e w3 ⟨rfl,hf3⟩)
     |(go_at_call 27;(with_reducible refine (HE1.out _).mono ?_);rintro e w4 ⟨er,rfl,hf4⟩))
    go_roundw
    case rel=>exact ⟨k+1,by omega,rfl,by go_num,(HF.out.trans hf3).trans hf4⟩
    case measure=>simp [intOf]<;>omega
   ·obtain rfl:k=n:=by omega
    have e:codeM (l.take k)=codeM l:=by rw [←HN.out,List.take_length]
    rw [e]
    clear e
    go_wp2_with fail
    go_ret
    exact ⟨rfl,HF.out⟩
theorem runV_parts{q:Except Int (Nat×ST)}(h:GoodR q):∃(a k:Nat) (t:ST) (g:Int),runV q= .tuple #[.agg #[.int .u64 a, .int .i64 k],t.agg, .int .i64 g]∧t.ok∧((∃s,q= .ok (k,s)∧a=s.reg 0∧g=0∧t=s)∨(q= .error g∧a=0∧k=0∧t=ST.zero)):=by
 cases q with
 |ok q=>exact ⟨q.2.reg 0,q.1,q.2,0,rfl,h _ _ rfl, .inl ⟨q.2,rfl,rfl,rfl,rfl⟩⟩
 |error e=>exact ⟨0,0,ST.zero,e,rfl,ST.zero_ok, .inr ⟨rfl,rfl,rfl,rfl⟩⟩
theorem eq_out(a k b m:Int)(w:World):(binOp .eql 40 (.agg #[.int .u64 a, .int .i64 k]) (.agg #[.int .u64 b, .int .i64 m])).run Tryz.prog w= .ok (.bool (a==b&&k==m)) w:=by
 have u5:=Tryz.underlying3
 have a5:=Tryz.isAgg3
 have z5:=Tryz.sizeOf3
 have u9:=Tryz.underlying25
 have a9:=Tryz.isAgg25
 have z9:=Tryz.sizeOf25
 have hS:Tryz.prog.underlying 40=some (.struct (Tryz.prog.fieldsOf 40)):=by kernel_rfl
 have hp:Tryz.prog.stoodInHeld 40=false:=by kernel_rfl
 rw [run_eql_struct,show (10000:Nat)=9999+1 from rfl,run_equalIn_agg w 9999 _ _ _ hS hp]
 simp only [Program.fieldsOf,Tryz.underlying40]
 go_simp
 by_cases e:a=b
 ·rw [if_pos e]
  by_cases e2:k=m<;>simp [e,e2]
 ·rw [if_neg e];simp [e]
theorem guard_out(xs ys:Array Value)(op:BinOp)(x y:Operand)(w:World):(eqGuard op 40 x y (.agg xs) (.agg ys)).run Tryz.prog w= .ok () w:=run_eqGuard_agg w op _ x y xs ys (by kernel_rfl)
theorem comesM_is{r0 steps:Nat}{e:Int}{l:List XI}{a k:Nat}{g:Int}(h:(∃s,(runM [] (codeM l) 20 (startW [5])).1= .ok (k,s)∧a=s.reg 0∧g=0)∨((runM [] (codeM l) 20 (startW [5])).1= .error g∧a=0∧k=0)):
  comesM r0 steps e l=(((a:Int)==(r0:Int)&&(k:Int)==(steps:Int))&&(g==e)):=by
 have c:∀m n:Nat,((m:Int)==(n:Int))=decide (m=n):=fun m n=>by
  rw [Bool.eq_iff_iff,beq_iff_eq,decide_eq_true_eq];omega
 have d:∀m n:Int,(m==n)=decide (m=n):=fun m n=>rfl
 unfold comesM
 rw [c,c,d]
 rcases h with ⟨s,h1,h2,h3⟩|⟨h1,h2,h3⟩
 ·rw [h1,h2,h3]
  simp only
  rw [Bool.and_assoc,show decide ((0:Int)=e)=decide (e=0) from decide_eq_decide.2 ⟨Eq.symm,Eq.symm⟩]
 ·rw [h1,h2,h3]
  simp only
  rw [Bool.and_assoc,show decide (g=e)=decide (e=g) from decide_eq_decide.2 ⟨Eq.symm,Eq.symm⟩,show decide (0=r0)=decide (r0=0) from decide_eq_decide.2 ⟨Eq.symm,Eq.symm⟩,show decide (0=steps)=decide (steps=0) from decide_eq_decide.2 ⟨Eq.symm,Eq.symm⟩]
theorem comes_any(r0 steps:Nat)(e:Int)(l:List XI)(v:Value)(w:World)(hm:MachAt w)(h:XsIn w v l)(hl:l.length≤100):
  Calls Tryz.prog 15 #[.int .u64 r0, .int .i64 steps, .int .i64 e,v] w fun en w'=>en= .returned (.bool (comesM r0 steps e l))∧Fr No w w':=by
 have HN:Hid (∀W:World,Calls Tryz.prog 6 #[.agg #[.slice none 0 0, .int .i64 0], .agg #[.string ⟨#[]⟩, .int .u64 0, .slice none 0 0, .slice (some ⟨W.heap.size,0,none⟩) 1 1], .slice none 0 0] (W.alloc (.cells #[.int .u64 5] 25)) (HNewQ (W.alloc (.cells #[.int .u64 5] 25)) [] 0 0 [] [5] (memL 0 0 [] [] []))):=fun W=>
  hnew_made [] ⟨#[]⟩ 0 0 (.slice none 0 0) (.slice (some ⟨W.heap.size,0,none⟩) 1 1) (.slice none 0 0) [] _ rfl rfl (.inl ⟨rfl,none,0,rfl⟩) rfl [] 0 0 none (.inl ⟨rfl,rfl,rfl⟩) rfl rfl ⟨⟨fun _ h=>absurd h List.not_mem_nil,List.Pairwise.nil,by decide⟩,fun _ h=>absurd h List.not_mem_nil,fun _ h=>absurd h List.not_mem_nil,by decide⟩ [5] (.inr ⟨W.heap.size,0,1,rfl,by decide,CellsAt.new W [.int .u64 5] _⟩) (by decide) (by decide) (by decide)
 have HC:Hid (∀W,Fr No w W→Calls Tryz.prog 8 #[v] W fun e w'=>e= .returned (.string (bA' (codeM l)))∧Fr No W w'):=fun W hW=>code_any l v W (h.fr hW) (by omega)
 have hcl:(codeM l).length≤1000000:=by have:=codeM_len l;omega
 obtain ⟨Q,hQ⟩:∃Q,runM [] (codeM l) 20 (startW [5])=Q:=⟨_,rfl⟩
 have HR:Hid (∀(w0 wo:World) (N bw mb p:Nat) (RL:List Reg),WM w0 N bw mb [] p RL (startW [5]) wo→MachAt w0→Calls Tryz.prog 7 #[.pointer (some ⟨bw,0,none⟩), .string (bA' (codeM l)), .int .i64 20] wo fun e w'=>RunTo w0 wo N bw mb [] p RL Q e w'):=fun w0 wo N bw mb p RL hw hm=>hQ ▸ run_any hw hm (codeM l) hcl 20 (by decide)
 have HQ:Hid (∀(a k:Nat) (g:Int),((∃s,Q.1= .ok (k,s)∧a=s.reg 0∧g=0)∨(Q.1= .error g∧a=0∧k=0))→comesM r0 steps e l=(((a:Int)==(r0:Int)&&(k:Int)==(steps:Int))&&(g==e))):=fun a k g hh=>comesM_is (hQ ▸ hh)
 have HM:=Lib.hid hm
 have HS:Hid (∀(W:World) (o:Obj) (t:TypeId),SAt ((W.alloc o).alloc (.cells ST.zero.cells.toArray t)) (W.heap.size+1) ST.zero):=fun W o t=>by rw [←size_alloc W o];exact SAt.new _ ST.zero_ok _
 generalize comesM r0 steps e l=V at*
 clear hQ h hl hcl hm
 generalize codeM l=CB at*
 go_enter Tryz.func15,Tryz.ntmps15
 go_upto_region 2 with (go_at_call 6;(with_reducible refine (HN.out _).mono ?_);rintro e1 w1 ⟨bw,b,mb,A,H,T,mv,ov,dv,rfl,hw1,hf1⟩)
 have HW0:Hid (Fr No w (w.alloc (.cells #[.int .u64 5] 25))):=Lib.hid (fr_alloc _ _)
 have HM0:Hid (MachAt (w.alloc (.cells #[.int .u64 5] 25))):=Lib.hid (HM.out.fr (fr_alloc _ _))
 obtain ⟨W0,hW0⟩:∃W0,W0=w.alloc (.cells #[.int .u64 5] 25):=⟨_,rfl⟩
 rw [←hW0] at hw1 hf1 HW0 HM0
 have HF1:Hid (Fr No w w1):=Lib.hid (HW0.out.trans hf1)
 have HWM:Hid (WM W0 w1.heap.size bw mb [] 0 (ownL 0 0 [] []) (startW [5]) w1):=Lib.hid (WM.of hw1.out (⟨rfl,fun d hd=>by rw [List.mem_singleton.1 hd];decide⟩:HWok [] ⟨[5],([]:List MapD).map Tab.new,memL 0 0 [] [] []⟩))
 clear hw1 hf1 HN hW0 HM
 go_upto_region 3 with (first
  |(go_at_call 8;(with_reducible refine (HC.out _ HF1.out).mono ?_);rintro e2 w2 ⟨rfl,hf2⟩;have HF2:=Lib.hid (HF1.out.trans hf2);replace HWM:=Lib.hid (HWM.out.to hf2);clear hf2)
  |(go_at_call 7;(with_reducible refine (HR.out _ _ _ _ _ _ _ HWM.out HM0.out).mono ?_);rintro e3 w3 ⟨he3,hw3,hf3,hg3⟩;have HF3:Hid (Fr (From w) w w3):=Lib.hid (HF2.out.any.trans (hf3.out.mono fun k _ hk=>Nat.le_trans HW0.out.size hk.1));obtain ⟨a,k,t,g,hq,ht,hor⟩:=runV_parts hg3;rw [hq] at he3;subst he3;clear hw3 hf3 hg3 hq;unfold ST.agg)
  |(refine (HS.out w3 _ _).store ht rfl (.tmp 12) (.tmp 27) rfl rfl rfl ?_;intro W9 h9 hf9))
 have HFZ:Hid (Fr No w W9):=Lib.hid (HF3.out.trans ((fr_alloc _ _).any.trans ((fr_alloc _ _).any.trans (hf9.mono fun k hk hk2=>by have:=HF3.out.size;show w.heap.size≤k;omega)))).ours
 have HOC:CellsAt W9 w3.heap.size 0 [.int .u64 a, .int .i64 k]:=hf9.cells (((fr_alloc _ _:Fr No _ _)).cells (CellsAt.new w3 [.int .u64 a, .int .i64 k] _) id) (show¬w3.heap.size=w3.heap.size+1 by omega)
 have o0:=HOC 0 _ rfl
 have o1:=HOC 1 _ rfl
 simp only [Nat.zero_add,Nat.add_zero] at o0 o1
 have HV:=Lib.hid (HQ.out a k g (hor.imp (fun ⟨s,h1,h2,h3,_⟩=>⟨s,h1,h2,h3⟩) (fun ⟨h1,h2,h3,_⟩=>⟨h1,h2,h3⟩)))
 have q1:=eq_out a k r0 steps
 have q2:=fun (xs ys:Array Value) (x y:Operand) W=>guard_out xs ys .eql x y W
 generalize (((a:Int)==(r0:Int)&&(k:Int)==(steps:Int)))=eb at*
 obtain ⟨gb,hgb⟩:∃gb,(g==e)=gb:=⟨_,rfl⟩
 rw [hgb] at HV
 clear HOC hf9 h9 hor ht HS HQ HR HC HF3
 cases eb
 ·go_wp2_with fail
  go_ret
  exact ⟨by rw [HV.out];rfl,HFZ.out⟩
 ·go_wp2_with fail
  go_ret
  exact ⟨by rw [HV.out];rfl,HFZ.out⟩
theorem runs_any(w:World)(hm:MachAt w):Calls Tryz.prog 5 #[] w fun e w'=>e= .returned (.bool true)∧Fr No w w':=by
 obtain ⟨r0,r1,r2,r3,r4,r5,r6⟩:=runs_true
 have H0:Hid (∀W:World,Fr No w W→Calls Tryz.prog 15 #[.int .u64 7, .int .i64 2, .int .i64 0, .slice (some ⟨W.heap.size,0,none⟩) 2 2] (W.alloc (.cells #[.int .i64 2, .int .i64 0, .int .i64 0, .int .i64 0, .bool true, .bool false, .int .i64 0, .int .i64 0, .int .i32 0, .int .i32 0, .int .i64 7, .int .i64 19, .int .i64 0, .int .i64 0, .int .i64 0, .bool false, .bool false, .int .i64 0, .int .i64 0, .int .i32 0, .int .i32 0, .int .i64 0] 27)) fun en w'=>en= .returned (.bool true)∧Fr No W w'):=fun W hW=>(comes_any 7 2 0 [{XI.zero with kind:=2,wide:=true,imm:=7},xRet] _ _ (hm.fr (hW.trans (fr_alloc _ _))) (.inr ⟨_,0,_,rfl,CellsAt.new W [.int .i64 2, .int .i64 0, .int .i64 0, .int .i64 0, .bool true, .bool false, .int .i64 0, .int .i64 0, .int .i32 0, .int .i32 0, .int .i64 7, .int .i64 19, .int .i64 0, .int .i64 0, .int .i64 0, .bool false, .bool false, .int .i64 0, .int .i64 0, .int .i32 0, .int .i32 0, .int .i64 0] _⟩) (by decide)).mono fun en w' h=>⟨by rw [←r0];exact h.1,(fr_alloc _ _).trans h.2⟩
 have H1:Hid (∀W:World,Fr No w W→Calls Tryz.prog 15 #[.int .u64 0, .int .i64 3, .int .i64 0, .slice (some ⟨W.heap.size,0,none⟩) 3 3] (W.alloc (.cells #[.int .i64 17, .int .i64 0, .int .i64 0, .int .i64 0, .bool false, .bool false, .int .i64 3, .int .i64 0, .int .i32 0, .int .i32 0, .int .i64 0, .int .i64 18, .int .i64 0, .int .i64 0, .int .i64 0, .bool false, .bool false, .int .i64 0, .int .i64 0, .int .i32 0, .int .i32 0, .int .i64 0, .int .i64 19, .int .i64 0, .int .i64 0, .int .i64 0, .bool false, .bool false, .int .i64 0, .int .i64 0, .int .i32 0, .int .i32 0, .int .i64 0] 27)) fun en w'=>en= .returned (.bool true)∧Fr No W w'):=fun W hW=>(comes_any 0 3 0 [{XI.zero with kind:=17,dst:=3},{XI.zero with kind:=18},xRet] _ _ (hm.fr (hW.trans (fr_alloc _ _))) (.inr ⟨_,0,_,rfl,CellsAt.new W [.int .i64 17, .int .i64 0, .int .i64 0, .int .i64 0, .bool false, .bool false, .int .i64 3, .int .i64 0, .int .i32 0, .int .i32 0, .int .i64 0, .int .i64 18, .int .i64 0, .int .i64 0, .int .i64 0, .bool false, .bool false, .int .i64 0, .int .i64 0, .int .i32 0, .int .i32 0, .int .i64 0, .int .i64 19, .int .i64 0, .int .i64 0, .int .i64 0, .bool false, .bool false, .int .i64 0, .int .i64 0, .int .i32 0, .int .i32 0, .int .i64 0] _⟩) (by decide)).mono fun en w' h=>⟨by rw [←r1];exact h.1,(fr_alloc _ _).trans h.2⟩
 have H2:Hid (∀W:World,Fr No w W→Calls Tryz.prog 15 #[.int .u64 0, .int .i64 0, .int .i64 110, .slice (some ⟨W.heap.size,0,none⟩) 2 2] (W.alloc (.cells #[.int .i64 17, .int .i64 0, .int .i64 0, .int .i64 0, .bool false, .bool false, .int .i64 0, .int .i64 0, .int .i32 0, .int .i32 0, .int .i64 0, .int .i64 19, .int .i64 0, .int .i64 0, .int .i64 0, .bool false, .bool false, .int .i64 0, .int .i64 0, .int .i32 0, .int .i32 0, .int .i64 0] 27)) fun en w'=>en= .returned (.bool true)∧Fr No W w'):=fun W hW=>(comes_any 0 0 110 [{XI.zero with kind:=17},xRet] _ _ (hm.fr (hW.trans (fr_alloc _ _))) (.inr ⟨_,0,_,rfl,CellsAt.new W [.int .i64 17, .int .i64 0, .int .i64 0, .int .i64 0, .bool false, .bool false, .int .i64 0, .int .i64 0, .int .i32 0, .int .i32 0, .int .i64 0, .int .i64 19, .int .i64 0, .int .i64 0, .int .i64 0, .bool false, .bool false, .int .i64 0, .int .i64 0, .int .i32 0, .int .i32 0, .int .i64 0] _⟩) (by decide)).mono fun en w' h=>⟨by rw [←r2];exact h.1,(fr_alloc _ _).trans h.2⟩
 have H3:Hid (∀W:World,Fr No w W→Calls Tryz.prog 15 #[.int .u64 0, .int .i64 0, .int .i64 70, .slice (some ⟨W.heap.size,0,none⟩) 2 2] (W.alloc (.cells #[.int .i64 13, .int .i64 0, .int .i64 0, .int .i64 3, .bool false, .bool false, .int .i64 0, .int .i64 3, .int .i32 0, .int .i32 0, .int .i64 0, .int .i64 19, .int .i64 0, .int .i64 0, .int .i64 0, .bool false, .bool false, .int .i64 0, .int .i64 0, .int .i32 0, .int .i32 0, .int .i64 0] 27)) fun en w'=>en= .returned (.bool true)∧Fr No W w'):=fun W hW=>(comes_any 0 0 70 [{XI.zero with kind:=13,size:=3,src:=3},xRet] _ _ (hm.fr (hW.trans (fr_alloc _ _))) (.inr ⟨_,0,_,rfl,CellsAt.new W [.int .i64 13, .int .i64 0, .int .i64 0, .int .i64 3, .bool false, .bool false, .int .i64 0, .int .i64 3, .int .i32 0, .int .i32 0, .int .i64 0, .int .i64 19, .int .i64 0, .int .i64 0, .int .i64 0, .bool false, .bool false, .int .i64 0, .int .i64 0, .int .i32 0, .int .i32 0, .int .i64 0] _⟩) (by decide)).mono fun en w' h=>⟨by rw [←r3];exact h.1,(fr_alloc _ _).trans h.2⟩
 have H4:Hid (∀W:World,Fr No w W→Calls Tryz.prog 15 #[.int .u64 0, .int .i64 0, .int .i64 100, .slice (some ⟨W.heap.size,0,none⟩) 1 1] (W.alloc (.cells #[.int .i64 15, .int .i64 0, .int .i64 0, .int .i64 0, .bool false, .bool true, .int .i64 0, .int .i64 0, .int .i32 0, .int .i32 (-2), .int .i64 0] 27)) fun en w'=>en= .returned (.bool true)∧Fr No W w'):=fun W hW=>(comes_any 0 0 100 [{XI.zero with kind:=15,short:=true,rel:= -2}] _ _ (hm.fr (hW.trans (fr_alloc _ _))) (.inr ⟨_,0,_,rfl,CellsAt.new W [.int .i64 15, .int .i64 0, .int .i64 0, .int .i64 0, .bool false, .bool true, .int .i64 0, .int .i64 0, .int .i32 0, .int .i32 (-2), .int .i64 0] _⟩) (by decide)).mono fun en w' h=>⟨by rw [←r4];exact h.1,(fr_alloc _ _).trans h.2⟩
 have H5:Hid (∀W:World,Fr No w W→Calls Tryz.prog 15 #[.int .u64 0, .int .i64 0, .int .i64 110, .slice none 0 0] W fun en w'=>en= .returned (.bool true)∧Fr No W w'):=fun W hW=>(comes_any 0 0 110 [] _ _ (hm.fr hW) (.inl ⟨rfl,none,0,rfl⟩) (by decide)).mono fun en w' h=>⟨by rw [←r5];exact h.1,h.2⟩
 have H6:Hid (∀W:World,Fr No w W→Calls Tryz.prog 15 #[.int .u64 5, .int .i64 2, .int .i64 0, .slice (some ⟨W.heap.size,0,none⟩) 2 2] (W.alloc (.cells #[.int .i64 20, .int .i64 0, .int .i64 0, .int .i64 0, .bool false, .bool false, .int .i64 0, .int .i64 0, .int .i32 0, .int .i32 4194306, .int .i64 0, .int .i64 19, .int .i64 0, .int .i64 0, .int .i64 0, .bool false, .bool false, .int .i64 0, .int .i64 0, .int .i32 0, .int .i32 0, .int .i64 0] 27)) fun en w'=>en= .returned (.bool true)∧Fr No W w'):=fun W hW=>(comes_any 5 2 0 [{XI.zero with kind:=20,rel:=4194306},xRet] _ _ (hm.fr (hW.trans (fr_alloc _ _))) (.inr ⟨_,0,_,rfl,CellsAt.new W [.int .i64 20, .int .i64 0, .int .i64 0, .int .i64 0, .bool false, .bool false, .int .i64 0, .int .i64 0, .int .i32 0, .int .i32 4194306, .int .i64 0, .int .i64 19, .int .i64 0, .int .i64 0, .int .i64 0, .bool false, .bool false, .int .i64 0, .int .i64 0, .int .i32 0, .int .i32 0, .int .i64 0] _⟩) (by decide)).mono fun en w' h=>⟨by rw [←r6];exact h.1,(fr_alloc _ _).trans h.2⟩
 clear r0 r1 r2 r3 r4 r5 r6 hm
 have HE:Hid (∀t,Fr No w (w.alloc (.cells (XI.cells ⟨19,0,0,0,false,false,0,0,0,0,0⟩).toArray t))∧XB (w.alloc (.cells (XI.cells ⟨19,0,0,0,false,false,0,0,0,0,0⟩).toArray t)) w.heap.size ⟨19,0,0,0,false,false,0,0,0,0,0⟩):=fun t=>⟨fr_alloc _ _,XB.new w _ t⟩
 go_enter Tryz.func5,Tryz.ntmps5
 go_upto_region 2 with fail
 refine wp_world (fun W1=>Hid (Fr No w W1∧XB W1 w.heap.size ⟨19,0,0,0,false,false,0,0,0,0,0⟩)) (by exact Lib.hid (HE.out _)) ?_
 intro W1 HL
 clear HE
 obtain ⟨c0,c1,c2,c3,c4,c5,c6,c7,c8,c9,c10⟩:=XI.at HL.out.2.cells
 go_wp2_with (first
  |(go_at_call 15;(with_reducible refine (H0.out _ HL.out.1).mono ?_);rintro e w9 ⟨rfl,hf9⟩;replace HL:=Lib.hid (And.intro (HL.out.1.trans hf9) (HL.out.2.fr hf9 id));obtain ⟨c0,c1,c2,c3,c4,c5,c6,c7,c8,c9,c10⟩:=XI.at HL.out.2.cells;clear hf9)
  |(go_at_call 15;(with_reducible refine (H1.out _ HL.out.1).mono ?_);rintro e w9 ⟨rfl,hf9⟩;replace HL:=Lib.hid (And.intro (HL.out.1.trans hf9) (HL.out.2.fr hf9 id));obtain ⟨c0,c1,c2,c3,c4,c5,c6,c7,c8,c9,c10⟩:=XI.at HL.out.2.cells;clear hf9)
  |(go_at_call 15;(with_reducible refine (H2.out _ HL.out.1).mono ?_);rintro e w9 ⟨rfl,hf9⟩;replace HL:=Lib.hid (And.intro (HL.out.1.trans hf9) (HL.out.2.fr hf9 id));obtain ⟨c0,c1,c2,c3,c4,c5,c6,c7,c8,c9,c10⟩:=XI.at HL.out.2.cells;clear hf9)
  |(go_at_call 15;(with_reducible refine (H3.out _ HL.out.1).mono ?_);rintro e w9 ⟨rfl,hf9⟩;replace HL:=Lib.hid (And.intro (HL.out.1.trans hf9) (HL.out.2.fr hf9 id));obtain ⟨c0,c1,c2,c3,c4,c5,c6,c7,c8,c9,c10⟩:=XI.at HL.out.2.cells;clear hf9)
  |(go_at_call 15;(with_reducible refine (H4.out _ HL.out.1).mono ?_);rintro e w9 ⟨rfl,hf9⟩;replace HL:=Lib.hid (And.intro (HL.out.1.trans hf9) (HL.out.2.fr hf9 id));obtain ⟨c0,c1,c2,c3,c4,c5,c6,c7,c8,c9,c10⟩:=XI.at HL.out.2.cells;clear hf9)
  |(go_at_call 15;(with_reducible refine (H5.out _ HL.out.1).mono ?_);rintro e w9 ⟨rfl,hf9⟩;replace HL:=Lib.hid (And.intro (HL.out.1.trans hf9) (HL.out.2.fr hf9 id));obtain ⟨c0,c1,c2,c3,c4,c5,c6,c7,c8,c9,c10⟩:=XI.at HL.out.2.cells;clear hf9)
  |(go_at_call 15;(with_reducible refine (H6.out _ HL.out.1).mono ?_);rintro e w9 ⟨rfl,hf9⟩;replace HL:=Lib.hid (And.intro (HL.out.1.trans hf9) (HL.out.2.fr hf9 id));obtain ⟨c0,c1,c2,c3,c4,c5,c6,c7,c8,c9,c10⟩:=XI.at HL.out.2.cells;clear hf9))
 go_ret
 exact ⟨rfl,HL.out.1⟩
end Go.Proofs.YtjcgmhlbkheadaaGreatDoor
namespace Go.Proofs.YtjcgmhlbkheadaaGreatDoor
open Go.ChangeShapes Go.WideShapes Go.ChangeAt Go.WideMaps Go.WideElems Go.RowKit
end Go.Proofs.YtjcgmhlbkheadaaGreatDoor
namespace Go.Proofs.YtjcgmhlbkheadaaGreatDoor
open Go.ChangeShapes Go.WideShapes Go.ChangeAt Go.WideMaps Go.WideElems Go.RowKit
def laidMc:List (String×DataW Unit):= [("firewall/codec.forms",Rows.laid_firewall_codec_forms),("firewall/codec.loads",Rows.laid_firewall_codec_loads),("firewall/codec.stores",Rows.laid_firewall_codec_stores),("firewall/codec.conds",Rows.laid_firewall_codec_conds),("firewall/cpu.does",Rows.laid_firewall_cpu_does),("firewall/cpu.shifts",Rows.laid_firewall_cpu_shifts),("firewall/helpers.args",Rows.laid_firewall_helpers_args),("firewall/machine.touches",Rows.laid_firewall_machine_touches),("firewall/machine.lost",Rows.laid_firewall_machine_lost)]
def laidMp:List (String×DataW Unit):= [("firewall/codec.forms",Rows.laid_firewall_codec_forms),("firewall/codec.loads",Rows.laid_firewall_codec_loads),("firewall/codec.stores",Rows.laid_firewall_codec_stores),("firewall/codec.conds",Rows.laid_firewall_codec_conds),("firewall/cpu.does",Rows.laid_firewall_cpu_does),("firewall/cpu.shifts",Rows.laid_firewall_cpu_shifts),("firewall/helpers.args",Rows.laid_firewall_helpers_args),("firewall/machine.lost",Rows.laid_firewall_machine_lost)]
theorem mach_met(os:Os)(args:Array Value):laidMetH Tryz.prog laidMc ((World.doorLaid Tryz.prog 1000 os).forCall (fun _ _=>0) ⟨#[],args, []⟩).memory:=
 laidMetH_of_parts3 (fuel:=8) (laidMet_of_run' 8 (by kernel_rfl) (by kernel_rfl)) (by kernel_rfl) (by kernel_rfl)
def FI.dat(f:FI):DataW Unit:= .agg [.lit (.string f.op), .lit (.int .i64 f.behind), .lit (.int .i64 f.digit), .lit (.int .i64 f.alu), .lit (.int .i64 f.imm), .lit (.bool f.wide), .lit (.bool f.narrow)]
section
variable {W:World} {base:Nat} {sp:Nat→Bool} {held:Bool}
theorem str_cell{fuel:Nat}{cs:List Value}{p:List MemPlace}{s:List UInt8}(h:DataW.trod (fun _=>()) Tryz.prog W base sp held fuel 9 cs=some (.lit (.string s),p)):cs= [.string (bA' s)]:=by
 obtain ⟨b,rfl,e,_⟩:=DataW.trod_string Tryz.underlying9 h
 simp only [Prod.mk.injEq,DataW.lit.injEq,Lit.string.injEq] at e
 rw [e.1]
 rfl
theorem int_cell{t:TypeId}{k:IntKind}(ht:Tryz.prog.underlying t=some (.int k)){fuel:Nat}{cs:List Value}{p:List MemPlace}{n:Int}(h:DataW.trod (fun _=>()) Tryz.prog W base sp held fuel t cs=some (.lit (.int k n),p)):cs= [.int k n]:=by
 obtain ⟨m,rfl,e,_⟩:=DataW.trod_int ht h
 simp only [Prod.mk.injEq,DataW.lit.injEq,Lit.int.injEq,true_and] at e
 rw [e.1]
theorem bool_cell{fuel:Nat}{cs:List Value}{p:List MemPlace}{n:Bool}(h:DataW.trod (fun _=>()) Tryz.prog W base sp held fuel 4 cs=some (.lit (.bool n),p)):cs= [.bool n]:=by
 obtain ⟨m,rfl,e⟩:=DataW.trod_bool Tryz.underlying4 h
 simp only [Prod.mk.injEq,DataW.lit.injEq,Lit.bool.injEq] at e
 rw [e.1]
theorem form_cells{fuel:Nat}{cs:List Value}{p:List MemPlace}{f:FI}(h:DataW.trod (fun _=>()) Tryz.prog W base sp held fuel 146 cs=some (f.dat,p)):cs=f.cells:=by
 obtain ⟨xs,n,_,ex,hl,hlen,hf⟩:=DataW.trod_struct Tryz.underlying146 h
 have c7:Tryz.prog.cellsOf 146=7:=by kernel_rfl
 have cs1:Tryz.prog.cellsOf 9=1:=by kernel_rfl
 have ci1:Tryz.prog.cellsOf 3=1:=by kernel_rfl
 have cb1:Tryz.prog.cellsOf 4=1:=by kernel_rfl
 rw [c7] at hl
 have hlen:xs.length=7:=hlen
 match cs,hl,xs,hlen with
 | [c0,c1,c2,c3,c4,c5,c6],_, [y0,y1,y2,y3,y4,y5,y6],_=>
  have g0:=hf 0 _ rfl
  have g1:=hf 1 _ rfl
  have g2:=hf 2 _ rfl
  have g3:=hf 3 _ rfl
  have g4:=hf 4 _ rfl
  have g5:=hf 5 _ rfl
  have g6:=hf 6 _ rfl
  simp only [cs1,ci1,cb1,List.drop_zero,List.drop_succ_cons,List.take_succ_cons,List.take_zero,List.getElem?_cons_zero,List.getElem?_cons_succ] at g0 g1 g2 g3 g4 g5 g6
  simp only [FI.dat,List.map_cons,List.map_nil,Prod.mk.injEq,DataW.agg.injEq,List.cons.injEq,and_true] at ex
  obtain ⟨⟨e0,e1,e2,e3,e4,e5,e6⟩,_⟩:=ex
  obtain ⟨d0,p0⟩:=y0;obtain ⟨d1,p1⟩:=y1;obtain ⟨d2,p2⟩:=y2;obtain ⟨d3,p3⟩:=y3;obtain ⟨d4,p4⟩:=y4;obtain ⟨d5,p5⟩:=y5;obtain ⟨d6,p6⟩:=y6
  subst e0 e1 e2 e3 e4 e5 e6
  have k0:=str_cell g0
  have k1:=int_cell Tryz.underlying3 g1
  have k2:=int_cell Tryz.underlying3 g2
  have k3:=int_cell Tryz.underlying3 g3
  have k4:=int_cell Tryz.underlying3 g4
  have k5:=bool_cell g5
  have k6:=bool_cell g6
  cases k0;cases k1;cases k2;cases k3;cases k4;cases k5;cases k6
  rfl
theorem cells_of_agg{α:Type}{fuel n m:Nat}{t e:TypeId}{cs:List Value}{L:List α}{dat:α→DataW Unit}{cells:α→List Value}{p:List MemPlace}(ht:Tryz.prog.underlying t=some (.array n e))(hce:Tryz.prog.cellsOf e=m)(hcl:∀a∈L,(cells a).length=m)
  (hone:∀(fuel:Nat) (cs:List Value) (p:List MemPlace) (a:α),DataW.trod (fun _=>()) Tryz.prog W base sp held fuel e cs=some (dat a,p)→cs=cells a)
  (h:DataW.trod (fun _=>()) Tryz.prog W base sp held fuel t cs=some (.agg (L.map dat),p)):∀(j:Nat) (u:Value),(L.flatMap cells)[j]? =some u→cs[j]? =some u:=by
 obtain ⟨xs,k,_,ex,hl0,hl,hel⟩:=DataW.trod_array ht h
 simp only [Prod.mk.injEq,DataW.agg.injEq] at ex
 have hxl:xs.length=L.length:=by
  have:=congrArg List.length ex.1
  simpa using this.symm
 have hpart:∀(i:Nat) (a:α),L[i]? =some a→(cs.drop (i*m)).take m=cells a:=by
  intro i a hi
  have hiL:i<L.length:=(List.getElem?_eq_some_iff.1 hi).1
  have hE:=hel i (by omega)
  rw [hce,List.getElem?_eq_getElem (by omega)] at hE
  have e3:(xs.map (·.1))[i]? =(L.map dat)[i]? :=by rw [ex.1]
  rw [List.getElem?_map,List.getElem?_map,List.getElem?_eq_getElem (by omega:i<xs.length),hi] at e3
  simp only [Option.map_some,Option.some.injEq] at e3
  exact hone _ _ (xs[i]'(by omega)).2 a (by rw [hE,←e3])
 clear hel hl hl0 hxl ex
 have key:∀(L:List α) (o:Nat),(∀a∈L,(cells a).length=m)→(∀(i:Nat) (a:α),L[i]? =some a→(cs.drop (o+i*m)).take m=cells a)→∀(j:Nat) (u:Value),(L.flatMap cells)[j]? =some u→cs[o+j]? =some u:=by
  intro L
  induction L with
  |nil=>intro o _ _ j u hj;simp at hj
  |cons a L ih=>
   intro o hc hp j u hj
   rw [List.flatMap_cons] at hj
   have ha:=hc a List.mem_cons_self
   by_cases hjm:j<m
   ·rw [List.getElem?_append_left (by omega)] at hj
    have h0:=hp 0 a rfl
    rw [Nat.zero_mul,Nat.add_zero] at h0
    rw [←h0,List.getElem?_take_of_lt hjm,List.getElem?_drop] at hj
    exact hj
   ·rw [List.getElem?_append_right (by omega),ha] at hj
    have:=ih (o+m) (fun b hb=>hc b (List.mem_cons_of_mem _ hb)) (fun i b hi=>by
     have:=hp (i+1) b (by simpa using hi)
     rwa [show o+(i+1)*m=o+m+i*m by rw [Nat.succ_mul];omega] at this) (j-m) u hj
    rwa [show o+m+(j-m)=o+j by omega] at this
 intro j u hj
 have:=key L 0 hcl (fun i a hi=>by rw [Nat.zero_add];exact hpart i a hi) j u hj
 rwa [Nat.zero_add] at this
end
theorem reads_at{W:World}{n:String}{g t:Nat}{d:DataW Unit}(h:Lib.VarReads Tryz.prog W n d)(hg:Tryz.prog.globalNamed n=some g)(ht:(Tryz.prog.globals[g]?).map (·.type)=some t):∃(cs:Array Value) (fuel:Nat) (p:List MemPlace),W.var? Tryz.prog n=some cs∧DataW.trod (fun _=>()) Tryz.prog W 0 (fun _=>true) false fuel t cs.toList=some (d,p):=by
 obtain ⟨g0,t0,cs,fuel,p,hg0,ht0,hv,hd⟩:=h
 obtain rfl:=Option.some.inj (hg.symm.trans hg0)
 obtain rfl:=Option.some.inj (ht.symm.trans ht0)
 exact ⟨cs,fuel,p,hv,hd⟩
theorem var_cells{W:World}{n:String}{g:Nat}{cs:Array Value}{vs:List Value}(hg:Tryz.prog.globalNamed n=some g)(hv:W.var? Tryz.prog n=some cs)(h:∀(j:Nat) (u:Value),vs[j]? =some u→cs.toList[j]? =some u):CellsAt W g 0 vs:=fun j u hj=>by
 rw [Nat.zero_add,World.var?_cell hg hv j,←Array.getElem?_toList]
 exact h j u hj
theorem map_var{W:World}{n:String}{g t k e:Nat}{R:Value→Option (DataW Unit×List MemPlace)}{D:List (Lit×DataW Unit)}(h:Lib.VarReads Tryz.prog W n (.map D))(hg:Tryz.prog.globalNamed n=some g)(ht:(Tryz.prog.globals[g]?).map (·.type)=some t)(hu:Tryz.prog.underlying t=some (.map k e))
  (hR:∀(m:Nat) (v:Value) z,elemAt (fun _=>()) Tryz.prog W 0 (fun _=>true) false m e v=some z→R v=some z):VarMap W g k R (.map D):=by
 obtain ⟨cs,fuel,p,hv,hd⟩:=reads_at h hg ht
 rcases Go.WideElems.open_map hu hd with ⟨_,hx⟩|⟨bm,es,clock,m,rfl,hcs,hb,_,F,hx⟩
 ·cases hx
 simp only [Prod.mk.injEq] at hx
 have hcell:W.cell? ⟨g,0,none⟩=some (.map (some bm)):=by
  have:=World.var?_cell hg hv 0
  rw [Array.eq_one_of_toList hcs] at this
  simpa using this
 refine ⟨bm,es.size,hcell,?_⟩
 have:=World.ownsMap_of_fit hb F (fun x _ z hz=>hR m x.val z hz)
 rw [←hx.1] at this
 exact this
theorem elemAt_fnR{W:World}{base m:Nat}{sp:Nat→Bool}{v:Value}{z:DataW (List UInt8)×List MemPlace}(h:elemAt (funcToken Tryz.prog) Tryz.prog W base sp true m 94 v=some z):fnR v=some z:=by
 unfold elemAt at h
 split at h
 ·rename_i hf
  obtain ⟨u,hc,hu,rfl⟩:=Go.RowKit.func_of_trod Tryz.underlying94 h
  have e:v=u:=by
   cases v<;>simp [Value.formed,Tryz.underlying94,Value.cells] at hf hc ⊢<;>exact hc
  subst e
  cases v<;>simp [IsFunc] at hu<;>rfl
 ·cases h
theorem mach_of_laid{W:World}(h:laidMetH Tryz.prog laidMc W):MachAt W:=by
 have h8:laidMet Tryz.prog laidMp W:=by
  have h2:=h
  unfold laidMetH at h2
  rw [show (laidMc.filter fun x=>x.2.handleName?.isSome)= [("firewall/machine.touches",Rows.laid_firewall_machine_touches)] from by kernel_rfl,show (laidMc.filter fun x=>x.2.handleName?.isNone)=laidMp from by kernel_rfl] at h2
  exact h2.1
 have at_:∀(i:Nat) {n:String} {d:DataW Unit},laidMp[i]? =some (n,d)→Lib.VarReads Tryz.prog W n d:=fun i n d e=>Lib.laidMet.reads h8 (List.mem_of_getElem? e)
 obtain ⟨gt,tt,ct,ft,pt,hgt,htt,hvt,hdt⟩:=h.funcs (n:= "firewall/machine.touches") (d:=_) (show ("firewall/machine.touches",DataW.iface "func table" _)∈laidMc from List.mem_of_getElem? (i:=7) rfl)
 constructor
 ·obtain ⟨cs,fuel,p,hv,hd⟩:=reads_at (at_ 0 rfl) (by kernel_rfl:Tryz.prog.globalNamed "firewall/codec.forms" =some 1) (by kernel_rfl:(Tryz.prog.globals[1]?).map (·.type)=some 147)
  exact var_cells (by kernel_rfl) hv (cells_of_agg (m:=7) (L:=formsL) (dat:=FI.dat) (cells:=FI.cells) Tryz.underlying147 (by kernel_rfl) (fun a _=>rfl) (fun _ _ _ _=>form_cells) hd)
 ·exact map_var (at_ 1 rfl) (by kernel_rfl) (by kernel_rfl) Tryz.underlying150 (fun _ _ _ hz=>Go.elemAt_plainElem_string Tryz.underlying9 hz)
 ·exact map_var (at_ 2 rfl) (by kernel_rfl) (by kernel_rfl) Tryz.underlying150 (fun _ _ _ hz=>Go.elemAt_plainElem_string Tryz.underlying9 hz)
 ·obtain ⟨cs,fuel,p,hv,hd⟩:=reads_at (at_ 3 rfl) (by kernel_rfl:Tryz.prog.globalNamed "firewall/codec.conds" =some 3) (by kernel_rfl:(Tryz.prog.globals[3]?).map (·.type)=some 152)
  obtain ⟨a,cap,hcs,_,hel⟩:=open_row Tryz.underlying152 (by kernel_rfl) (show DataW.trod _ _ _ _ _ _ _ _ _=some (.slice (condsL.map fun z=> .lit (.int .i64 z)) [],p) from hd)
  have hcell:∀(i:Nat) (z:Int),condsL[i]? =some z→W.cell? (a.add i)=some (.int .i64 z):=by
   intro i z hz
   obtain ⟨v,n,q,hc,ht⟩:=hel i _ (by rw [List.getElem?_map,hz];rfl)
   have:=int_cell Tryz.underlying3 ht
   rw [hc,List.cons.inj this|>.1]
  obtain ⟨b,off,spot⟩:=a
  have hspot:spot=none:=by simpa [Addr.add] using World.cell?_spot (hcell 0 2 rfl)
  subst hspot
  refine ⟨b,off,cap,?_,fun j u hj=> ?_⟩
  ·have:=World.var?_cell (by kernel_rfl:Tryz.prog.globalNamed "firewall/codec.conds" =some 3) hv 0
   rw [Array.eq_one_of_toList hcs] at this
   simp at this
   exact this
  ·unfold condsC at hj
   rw [List.getElem?_map] at hj
   cases hz:condsL[j]? with
   |none=>rw [hz] at hj;cases hj
   |some z=>
    rw [hz] at hj
    obtain rfl:=Option.some.inj hj
    have hz2:=hcell j z hz
    by_cases j0:j=0
    ·subst j0;simpa [Addr.add] using hz2
    ·simpa [Addr.add,j0] using hz2
 ·exact map_var (at_ 4 rfl) (by kernel_rfl) (by kernel_rfl) Tryz.underlying165 (fun _ _ _ hz=>elemAt_plainElem_int Tryz.underlying5 hz)
 ·exact map_var (at_ 5 rfl) (by kernel_rfl) (by kernel_rfl) Tryz.underlying165 (fun _ _ _ hz=>elemAt_plainElem_int Tryz.underlying5 hz)
 ·exact map_var (at_ 6 rfl) (by kernel_rfl) (by kernel_rfl) Tryz.underlying195 (fun _ _ _ hz=>elemAt_plainElem_int Tryz.underlying3 hz)
 ·obtain rfl:=Option.some.inj ((by kernel_rfl:Tryz.prog.globalNamed "firewall/machine.touches" =some 0).symm.trans hgt)
  obtain rfl:=Option.some.inj ((by kernel_rfl:(Tryz.prog.globals[0]?).map (·.type)=some 95).symm.trans htt)
  have hdt:DataW.trod (funcToken Tryz.prog) Tryz.prog W 0 (fun _=>true) true ft 95 ct.toList=some (touchesD,pt):=hdt
  rcases Go.WideElems.open_map Tryz.underlying95 hdt with ⟨_,hx⟩|⟨bm,es,clock,m,rfl,hcs,hb,_,F,hx⟩
  ·cases hx
  simp only [Prod.mk.injEq] at hx
  have hcell:W.cell? ⟨0,0,none⟩=some (.map (some bm)):=by
   have:=World.var?_cell hgt hvt 0
   rw [Array.eq_one_of_toList hcs] at this
   simpa using this
  refine ⟨bm,es.size,hcell,?_⟩
  have:=World.ownsMap_of_fit hb F (fun x _ z hz=>elemAt_fnR hz)
  rw [←hx.1] at this
  exact this
 ·obtain ⟨cs,fuel,p,hv,hd⟩:=reads_at (at_ 7 rfl) (by kernel_rfl:Tryz.prog.globalNamed "firewall/machine.lost" =some 4) (by kernel_rfl:(Tryz.prog.globals[4]?).map (·.type)=some 157)
  have:=var_cells (g:=4) (vs:=([1,2,6,7,8,9,10,11]:List Int).flatMap fun z=> [Value.int .i64 z]) (by kernel_rfl) hv (cells_of_agg (m:=1) (L:=([1,2,6,7,8,9,10,11]:List Int)) (dat:=fun z=> .lit (.int .i64 z)) (cells:=fun z=> [.int .i64 z]) Tryz.underlying157 (by kernel_rfl) (fun a _=>rfl) (fun _ _ _ _=>int_cell Tryz.underlying3) hd)
  exact this
end Go.Proofs.YtjcgmhlbkheadaaGreatDoor
