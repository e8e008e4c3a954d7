/- package codec: Valid. (printed by mkvalid.py) -/
import Derived.Test.YtfmcmfiebehhiaaGreatDoorCore9
import Derived.Test.YtfmcmfiebehhiaaGreatDoorCore17
import Derived.Deep.RegionHeld3
import Derived.Deep.CutBlock
import Derived.Lib.Strings
set_option linter.all false
set_option linter.unusedVariables false
set_option linter.unusedSimpArgs false
set_option maxRecDepth 100000
set_option maxHeartbeats 8000000
namespace Go.Proofs.YtfmcmfiebehhiaaGreatDoor
open Go.Proofs.Tryz
open Go.RowKit
theorem forms_behind(k):(formsL.getD k FI.none).behind≤7∧((formsL.getD k FI.none).imm=0∨(formsL.getD k FI.none).imm=1∨(formsL.getD k FI.none).imm=4∨(formsL.getD k FI.none).imm=8):=by
 by_cases hk:k<22
 ·revert k;decide+kernel
 ·rw [List.getD_eq_getElem?_getD,List.getElem?_eq_none (by simp [formsL];omega)]
  decide
def badB(x:XI)(f:FI):Bool:=(!decide (x=usedM x f))||(decide (x.dst<0)||(decide (x.dst>15)||(decide (x.src<0)||(decide (x.src>15)||((f.wide&& !x.wide)||((f.narrow&&x.wide)|| !numberM x f))))))
theorem badB_iff(x:XI)(f:FI):badB x f=true↔(x≠usedM x f∨x.dst<0∨15<x.dst∨x.src<0∨15<x.src∨(f.wide=true∧x.wide=false)∨(f.narrow=true∧x.wide=true)∨numberM x f=false):=by
 unfold badB
 simp
def goodB(x:XI)(f:FI):Bool:=
 if f.alu=1 then (x.alu==1||x.alu==0)||(decide (x.alu≥4)&&decide (x.alu≤7))
 else if f.alu=2 then (x.alu==4||x.alu==5)||x.alu==7
 else if f.behind=5∨f.behind=6 then (!(loadsM x.size).isEmpty)&&(x.wide==(x.size==8))
 else if x.short then (decide (x.rel≥-128)&&decide (x.rel≤127))&&(x.kind==15||condsL.contains x.cond)
 else (!(x.kind==16))||condsL.contains x.cond
theorem validB_eq(x:XI)(h1:1≤x.kind)(h2:x.kind<22):validM x=if badB x (formM x.kind)=true then false else goodB x (formM x.kind):=by
 unfold validM goodB
 rw [if_neg (by omega)]
 simp only
 generalize formM x.kind=f
 have e:∀a b:Int,decide (a=b)=(a==b):=fun a b=>rfl
 have g:(!x.kind==16)=decide (x.kind≠16):=by rw [Bool.eq_iff_iff];simp
 simp only [e,←badB_iff,g]
theorem ownsJ{H}{w w':World}{t}{R:Value→Option (DataW H×List MemPlace)}{bm n}{D:DataW H}(h:w.ownsMap prog t R bm n D)(hf:Fr No w w'):w'.ownsMap prog t R bm n D:=by
 obtain ⟨es,clock,hb,hF,hn,hD⟩:=h
 refine ⟨es,clock,?_,hF,hn,hD⟩
 have hlt:bm<w.heap.size:=(Array.getElem?_eq_some_iff.1 hb).1
 rw [hf.block bm hlt id]
 exact hb
theorem bA'_toList(l):(bA' l).toList=l:=by rw [Lib.toList_data];rfl
theorem bA'_eq(l m):((bA' l).toList==m)=(l==m):=by rw [bA'_toList]
theorem valid_at(k:Nat)(hk:1≤k∧k<22)(a c z:Int)(wd sh:Bool)(d s dp rl im:Int)(w:World)(h:MachAt w)(hz:(Lit.int .i64 z).wf=true):
  Calls prog 69 #[(XI.mk k a c z wd sh d s dp rl im).agg] w fun e w'=>e= .returned (.bool (validM (XI.mk k a c z wd sh d s dp rl im)))∧Fr No w w':=by
 obtain ⟨x,hx⟩:∃x,x=XI.mk k a c z wd sh d s dp rl im:=⟨_,rfl⟩
 obtain ⟨f0,f1,f2,f3,f4,f5,f6,hg⟩:=h.form k hk.2
 rw [Nat.mul_comm 7 k] at f0 f1 f2 f3 f4 f5 f6
 obtain ⟨hb,hi⟩:=forms_behind k
 have HV:Hid (validM x=if badB x (formsL.getD k FI.none)=true then false else goodB x (formsL.getD k FI.none)):=by
  have:=validB_eq x (by rw [hx];show (1:Int)≤(k:Int);omega) (by rw [hx];show (k:Int)<22;omega)
  rw [show formM x.kind=formsL.getD k FI.none by rw [hx];unfold formM;rw [Int.toNat_natCast]] at this
  exact this
 generalize formsL.getD k FI.none=f at*
 have HU:Hid (∀W,Fr No w W→Calls prog 108 #[x.agg,f.agg] W fun e w'=>e= .returned (usedM x f).agg∧Fr No W w'):=fun W _=>used_any x f W hb
 have HN:Hid (∀W,Calls prog 109 #[x.agg,f.agg] W fun e w'=>e= .returned (.bool (numberM x f))∧Fr No W w'):=fun W=>cnumber_any x f W hi
 have HE:=Lib.hid (fun W=>neq_X x (usedM x f) W)
 obtain ⟨bm,n,hc,ho⟩:=h.loads
 have HL:Hid (∀W,Fr No w W→W.cell? ⟨2,0,none⟩=some (.map (some bm))∧(Instr.lookup 213 (.map (some bm)) (.int .i64 z) false).run prog W= .ok (.string (bA' (loadsM z))) W):=fun W hW=>⟨hW.cell hc id,str_look (ownsJ ho hW) hz (loads_at z)⟩
 obtain ⟨gc,oc,cc,hcc,HC0⟩:=h.inConds
 have HC:Hid (∀W,Fr No w W→W.cell? ⟨3,0,none⟩=some (.slice (some ⟨gc,oc,none⟩) 10 cc)∧Calls prog 110 #[.slice (some ⟨gc,oc,none⟩) 10 cc, .int .i64 c] W fun e w''=>e= .returned (.bool (condsL.contains c))∧Fr No W w''):=fun W hW=>⟨hW.cell hcc id,HC0 W c hW⟩
 clear h hc ho hcc HC0 hb hi hz
 have hk1:¬(k:Int)<1:=by omega
 have hk2:¬(22:Int)≤(k:Int):=by omega
 obtain ⟨y,hy⟩:∃y,usedM x f=y:=⟨_,rfl⟩
 have HB:Hid (badB x f=((!decide (x=y))||(decide (x.dst<0)||(decide (x.dst>15)||(decide (x.src<0)||(decide (x.src>15)||((f.wide&& !x.wide)||((f.narrow&&x.wide)|| !numberM x f)))))))):=by rw [←hy];rfl
 obtain ⟨nb,hnb⟩:∃nb,numberM x f=nb:=⟨_,rfl⟩
 obtain ⟨ne,hne⟩:∃ne,(!decide (x=y))=ne:=⟨_,rfl⟩
 rw [hy] at HU HE
 rw [hne] at HB HE
 rw [hnb] at HN HB
 clear hy hnb hne
 obtain ⟨bb,hbb⟩:∃bb,badB x f=bb:=⟨_,rfl⟩
 obtain ⟨gb,hgb⟩:∃gb,goodB x f=gb:=⟨_,rfl⟩
 rw [hbb] at HV HB
 rw [hgb] at HV
 rw [hx] at HU HN HE HB HV hgb
 clear hx hbb
 obtain ⟨op,bh,dg,al,mm,fw,fn⟩:=f
 simp only [XI.agg,FI.agg] at*
 obtain ⟨V,hV⟩:∃V,validM ⟨(k:Int),a,c,z,wd,sh,d,s,dp,rl,im⟩=V:=⟨_,rfl⟩
 rw [hV] at HV ⊢
 have HGB:=Lib.hid hgb
 clear hV hgb
 go_enter func69,ntmps69
 go_wp2_with fail
 obtain ⟨W2,hW2⟩:∃W2,W2=((w.alloc (Obj.cells #[Value.int .i64 k,Value.int .i64 a,Value.int .i64 c,Value.int .i64 z,Value.bool wd,Value.bool sh,Value.int .i64 d,Value.int .i64 s,Value.int .i32 dp,Value.int .i32 rl,Value.int .i64 im] 48)).alloc (Obj.cells #[Value.string (bA' op),Value.int .i64 bh,Value.int .i64 dg,Value.int .i64 al,Value.int .i64 mm,Value.bool fw,Value.bool fn] 202)):=⟨_,rfl⟩
 have HF2:Hid (Fr No w W2):=by rw [hW2];exact (fr_alloc w _).alloc _
 have HCells:W2.cell? ⟨w.heap.size,0,none⟩=some (Value.int .i64 k)∧W2.cell? ⟨w.heap.size,1,none⟩=some (Value.int .i64 a)∧W2.cell? ⟨w.heap.size,2,none⟩=some (Value.int .i64 c)∧W2.cell? ⟨w.heap.size,3,none⟩=some (Value.int .i64 z)∧W2.cell? ⟨w.heap.size,4,none⟩=some (Value.bool wd)∧W2.cell? ⟨w.heap.size,5,none⟩=some (Value.bool sh)∧W2.cell? ⟨w.heap.size,6,none⟩=some (Value.int .i64 d)∧W2.cell? ⟨w.heap.size,7,none⟩=some (Value.int .i64 s)∧W2.cell? ⟨w.heap.size,8,none⟩=some (Value.int .i32 dp)∧W2.cell? ⟨w.heap.size,9,none⟩=some (Value.int .i32 rl)∧W2.cell? ⟨w.heap.size,10,none⟩=some (Value.int .i64 im)∧W2.cell? ⟨w.heap.size+1,0,none⟩=some (Value.string (bA' op))∧W2.cell? ⟨w.heap.size+1,1,none⟩=some (Value.int .i64 bh)∧W2.cell? ⟨w.heap.size+1,2,none⟩=some (Value.int .i64 dg)∧W2.cell? ⟨w.heap.size+1,3,none⟩=some (Value.int .i64 al)∧W2.cell? ⟨w.heap.size+1,4,none⟩=some (Value.int .i64 mm)∧W2.cell? ⟨w.heap.size+1,5,none⟩=some (Value.bool fw)∧W2.cell? ⟨w.heap.size+1,6,none⟩=some (Value.bool fn):=by
  have e1:CellsAt W2 w.heap.size 0 [Value.int .i64 k,Value.int .i64 a,Value.int .i64 c,Value.int .i64 z,Value.bool wd,Value.bool sh,Value.int .i64 d,Value.int .i64 s,Value.int .i32 dp,Value.int .i32 rl,Value.int .i64 im]:=by rw [hW2];exact ((Fr.refl No _).alloc _).cells (CellsAt.new w _ _) id
  have e2:CellsAt W2 (w.heap.size+1) 0 [Value.string (bA' op),Value.int .i64 bh,Value.int .i64 dg,Value.int .i64 al,Value.int .i64 mm,Value.bool fw,Value.bool fn]:=by rw [hW2,←size_alloc];exact CellsAt.new _ _ _
  exact ⟨e1 0 _ rfl,e1 1 _ rfl,e1 2 _ rfl,e1 3 _ rfl,e1 4 _ rfl,e1 5 _ rfl,e1 6 _ rfl,e1 7 _ rfl,e1 8 _ rfl,e1 9 _ rfl,e1 10 _ rfl,e2 0 _ rfl,e2 1 _ rfl,e2 2 _ rfl,e2 3 _ rfl,e2 4 _ rfl,e2 5 _ rfl,e2 6 _ rfl⟩
 rw [←hW2]
 clear hW2
 have HK:Hid (∀W,Hid (Fr No W2 W)→(W.cell? ⟨w.heap.size,0,none⟩=some (Value.int .i64 k)∧W.cell? ⟨w.heap.size,1,none⟩=some (Value.int .i64 a)∧W.cell? ⟨w.heap.size,2,none⟩=some (Value.int .i64 c)∧W.cell? ⟨w.heap.size,3,none⟩=some (Value.int .i64 z)∧W.cell? ⟨w.heap.size,4,none⟩=some (Value.bool wd)∧W.cell? ⟨w.heap.size,5,none⟩=some (Value.bool sh)∧W.cell? ⟨w.heap.size,6,none⟩=some (Value.int .i64 d)∧W.cell? ⟨w.heap.size,7,none⟩=some (Value.int .i64 s)∧W.cell? ⟨w.heap.size,8,none⟩=some (Value.int .i32 dp)∧W.cell? ⟨w.heap.size,9,none⟩=some (Value.int .i32 rl)∧W.cell? ⟨w.heap.size,10,none⟩=some (Value.int .i64 im)∧W.cell? ⟨w.heap.size+1,0,none⟩=some (Value.string (bA' op))∧W.cell? ⟨w.heap.size+1,1,none⟩=some (Value.int .i64 bh)∧W.cell? ⟨w.heap.size+1,2,none⟩=some (Value.int .i64 dg)∧W.cell? ⟨w.heap.size+1,3,none⟩=some (Value.int .i64 al)∧W.cell? ⟨w.heap.size+1,4,none⟩=some (Value.int .i64 mm)∧W.cell? ⟨w.heap.size+1,5,none⟩=some (Value.bool fw)∧W.cell? ⟨w.heap.size+1,6,none⟩=some (Value.bool fn))∧Hid (Fr No W2 W)):=fun W hW=>by
  obtain ⟨q0,q1,q2,q3,q4,q5,q6,q7,q8,q9,q10,q11,q12,q13,q14,q15,q16,q17⟩:=HCells
  exact ⟨⟨hW.out.cell q0 id,hW.out.cell q1 id,hW.out.cell q2 id,hW.out.cell q3 id,hW.out.cell q4 id,hW.out.cell q5 id,hW.out.cell q6 id,hW.out.cell q7 id,hW.out.cell q8 id,hW.out.cell q9 id,hW.out.cell q10 id,hW.out.cell q11 id,hW.out.cell q12 id,hW.out.cell q13 id,hW.out.cell q14 id,hW.out.cell q15 id,hW.out.cell q16 id,hW.out.cell q17 id⟩,hW⟩
 clear HCells
 have HFX:Hid (Fr No W2 W2.drew):=(Fr.refl _ _).drew
 have H0:=HK.out _ HFX
 have HUs:Hid (∀W,Hid (Fr No W2 W)→_):=fun W hW=>HU.out W (HF2.out.trans hW.out)
 clear HU
 have hEq:=HE.out
 have hGd:=fun (xs ys:Array Value) (x y:Operand) W=>guard_X xs ys .neq x y W
 clear HE
 go_region_held3 (fun W=>(W.cell? ⟨w.heap.size,0,none⟩=some (Value.int .i64 k)∧W.cell? ⟨w.heap.size,1,none⟩=some (Value.int .i64 a)∧W.cell? ⟨w.heap.size,2,none⟩=some (Value.int .i64 c)∧W.cell? ⟨w.heap.size,3,none⟩=some (Value.int .i64 z)∧W.cell? ⟨w.heap.size,4,none⟩=some (Value.bool wd)∧W.cell? ⟨w.heap.size,5,none⟩=some (Value.bool sh)∧W.cell? ⟨w.heap.size,6,none⟩=some (Value.int .i64 d)∧W.cell? ⟨w.heap.size,7,none⟩=some (Value.int .i64 s)∧W.cell? ⟨w.heap.size,8,none⟩=some (Value.int .i32 dp)∧W.cell? ⟨w.heap.size,9,none⟩=some (Value.int .i32 rl)∧W.cell? ⟨w.heap.size,10,none⟩=some (Value.int .i64 im)∧W.cell? ⟨w.heap.size+1,0,none⟩=some (Value.string (bA' op))∧W.cell? ⟨w.heap.size+1,1,none⟩=some (Value.int .i64 bh)∧W.cell? ⟨w.heap.size+1,2,none⟩=some (Value.int .i64 dg)∧W.cell? ⟨w.heap.size+1,3,none⟩=some (Value.int .i64 al)∧W.cell? ⟨w.heap.size+1,4,none⟩=some (Value.int .i64 mm)∧W.cell? ⟨w.heap.size+1,5,none⟩=some (Value.bool fw)∧W.cell? ⟨w.heap.size+1,6,none⟩=some (Value.bool fn))∧Hid (Fr No W2 W))
  (first|assumption|exact HK.out _ (by assumption))
  (first|(go_at_call 108;(with_reducible refine (HUs.out _ (by assumption)).mono ?_);rintro e w3 ⟨rfl,hf3⟩;have HF3:Hid (Fr No W2 w3):=Lib.hid (Fr.trans (Hid.out (by assumption:Hid (Fr No W2 _))) hf3);clear hf3))
 clear hEq hGd f0 f1 f2 f3 f4 f5 f6
 obtain ⟨⟨q0,q1,q2,q3,q4,q5,q6,q7,q8,q9,q10,q11,q12,q13,q14,q15,q16,q17⟩,_⟩:=HK.out _ HF3
 go_upto_if 16 with fail
 go_cut [16] from 22 to 50 (fun s wx=>s= .bool bb∧Hid (Fr No W2 wx))
 case first=>
  cases ne with
  |true=>
   obtain rfl:bb=true:=by rw [HB.out];simp [*]
   clear HB
   go_wp2_with fail
   go_meet
   exact ⟨rfl,HF3.out⟩
  |false=>
   by_cases g6:d<0
   ·obtain rfl:bb=true:=by rw [HB.out];simp [*]
    clear HB
    go_wp2_with fail
    go_meet
    exact ⟨rfl,HF3.out⟩
   ·skip
    by_cases g8:15<d
    ·obtain rfl:bb=true:=by rw [HB.out];simp [*]
     clear HB
     go_wp2_with fail
     go_meet
     exact ⟨rfl,HF3.out⟩
    ·skip
     by_cases g10:s<0
     ·obtain rfl:bb=true:=by rw [HB.out];simp [*]
      clear HB
      go_wp2_with fail
      go_meet
      exact ⟨rfl,HF3.out⟩
     ·skip
      by_cases g12:15<s
      ·obtain rfl:bb=true:=by rw [HB.out];simp [*]
       clear HB
       go_wp2_with fail
       go_meet
       exact ⟨rfl,HF3.out⟩
      ·skip
       cases wd<;>cases fw<;>cases fn
       ·cases nb with
        |true=>
         obtain rfl:bb=false:=by rw [HB.out];simp [*]
         clear HB
         go_wp2_with (go_at_call 109;(with_reducible refine (HN.out _).mono ?_);rintro e w4 ⟨rfl,hf4⟩)
         go_meet
         exact ⟨rfl,HF3.out.trans hf4⟩
        |false=>
         obtain rfl:bb=true:=by rw [HB.out];simp [*]
         clear HB
         go_wp2_with (go_at_call 109;(with_reducible refine (HN.out _).mono ?_);rintro e w4 ⟨rfl,hf4⟩)
         go_meet
         exact ⟨rfl,HF3.out.trans hf4⟩
       ·cases nb with
        |true=>
         obtain rfl:bb=false:=by rw [HB.out];simp [*]
         clear HB
         go_wp2_with (go_at_call 109;(with_reducible refine (HN.out _).mono ?_);rintro e w4 ⟨rfl,hf4⟩)
         go_meet
         exact ⟨rfl,HF3.out.trans hf4⟩
        |false=>
         obtain rfl:bb=true:=by rw [HB.out];simp [*]
         clear HB
         go_wp2_with (go_at_call 109;(with_reducible refine (HN.out _).mono ?_);rintro e w4 ⟨rfl,hf4⟩)
         go_meet
         exact ⟨rfl,HF3.out.trans hf4⟩
       ·obtain rfl:bb=true:=by rw [HB.out];simp [*]
        clear HB
        go_wp2_with fail
        go_meet
        exact ⟨rfl,HF3.out⟩
       ·obtain rfl:bb=true:=by rw [HB.out];simp [*]
        clear HB
        go_wp2_with fail
        go_meet
        exact ⟨rfl,HF3.out⟩
       ·cases nb with
        |true=>
         obtain rfl:bb=false:=by rw [HB.out];simp [*]
         clear HB
         go_wp2_with (go_at_call 109;(with_reducible refine (HN.out _).mono ?_);rintro e w4 ⟨rfl,hf4⟩)
         go_meet
         exact ⟨rfl,HF3.out.trans hf4⟩
        |false=>
         obtain rfl:bb=true:=by rw [HB.out];simp [*]
         clear HB
         go_wp2_with (go_at_call 109;(with_reducible refine (HN.out _).mono ?_);rintro e w4 ⟨rfl,hf4⟩)
         go_meet
         exact ⟨rfl,HF3.out.trans hf4⟩
       ·obtain rfl:bb=true:=by rw [HB.out];simp [*]
        clear HB
        go_wp2_with fail
        go_meet
        exact ⟨rfl,HF3.out⟩
       ·cases nb with
        |true=>
         obtain rfl:bb=false:=by rw [HB.out];simp [*]
         clear HB
         go_wp2_with (go_at_call 109;(with_reducible refine (HN.out _).mono ?_);rintro e w4 ⟨rfl,hf4⟩)
         go_meet
         exact ⟨rfl,HF3.out.trans hf4⟩
        |false=>
         obtain rfl:bb=true:=by rw [HB.out];simp [*]
         clear HB
         go_wp2_with (go_at_call 109;(with_reducible refine (HN.out _).mono ?_);rintro e w4 ⟨rfl,hf4⟩)
         go_meet
         exact ⟨rfl,HF3.out.trans hf4⟩
       ·obtain rfl:bb=true:=by rw [HB.out];simp [*]
        clear HB
        go_wp2_with fail
        go_meet
        exact ⟨rfl,HF3.out⟩
 case rest=>
  obtain ⟨rfl,HFc⟩:=hcut
  clear HN HB HF3
  obtain ⟨⟨q0,q1,q2,q3,q4,q5,q6,q7,q8,q9,q10,q11,q12,q13,q14,q15,q16,q17⟩,_⟩:=HK.out _ HFc
  have HWc:Hid (Fr No w wc):=HF2.out.trans HFc.out
  obtain ⟨hL3,hL4⟩:=HL.out _ HWc.out
  have hC3:=(HC.out _ HWc.out).1
  have HCC:Hid (Calls prog 110 #[.slice (some ⟨gc,oc,none⟩) 10 cc, .int .i64 c] wc fun e w''=>e= .returned (.bool (condsL.contains c))∧Fr No wc w''):=(HC.out _ HWc.out).2
  obtain ⟨cb,hcb⟩:∃cb,condsL.contains c=cb:=⟨_,rfl⟩
  rw [hcb] at HCC
  clear HK HC HL HFc
  cases bb with
  |true=>
   obtain rfl:V=false:=by rw [HV.out];rfl
   go_wp2_with fail
   go_ret
   exact ⟨rfl,HWc.out⟩
  |false=>
   obtain rfl:V=gb:=by rw [HV.out];rfl
   clear HV
   by_cases a1:al=1
   ·subst a1
    by_cases g1:a=1
    ·obtain rfl:V=true:=by rw [←HGB.out];simp [goodB, *]
     clear HGB
     go_wp2_with fail
     go_ret
     exact ⟨rfl,HWc.out⟩
    by_cases g2:a=0
    ·obtain rfl:V=true:=by rw [←HGB.out];simp [goodB, *]
     clear HGB
     go_wp2_with fail
     go_ret
     exact ⟨rfl,HWc.out⟩
    by_cases g3:4≤a
    ·by_cases g4:a≤7
     ·obtain rfl:V=true:=by rw [←HGB.out];simp [goodB, *]
      clear HGB
      go_wp2_with fail
      go_ret
      exact ⟨rfl,HWc.out⟩
     ·obtain rfl:V=false:=by rw [←HGB.out];simp [goodB, *]
      clear HGB
      go_wp2_with fail
      go_ret
      exact ⟨rfl,HWc.out⟩
    ·obtain rfl:V=false:=by rw [←HGB.out];simp [goodB, *]
     clear HGB
     go_wp2_with fail
     go_ret
     exact ⟨rfl,HWc.out⟩
   by_cases a2:al=2
   ·subst a2
    by_cases g4:a=4
    ·obtain rfl:V=true:=by rw [←HGB.out];simp [goodB, *]
     clear HGB
     go_wp2_with fail
     go_ret
     exact ⟨rfl,HWc.out⟩
    by_cases g5:a=5
    ·obtain rfl:V=true:=by rw [←HGB.out];simp [goodB, *]
     clear HGB
     go_wp2_with fail
     go_ret
     exact ⟨rfl,HWc.out⟩
    by_cases g7:a=7
    ·obtain rfl:V=true:=by rw [←HGB.out];simp [goodB, *]
     clear HGB
     go_wp2_with fail
     go_ret
     exact ⟨rfl,HWc.out⟩
    have e7:(a==7)=false:=by rw [beq_eq_false_iff_ne];exact g7
    obtain rfl:V=false:=by rw [←HGB.out];simp [goodB, *]
    clear HGB
    go_wp2_with fail
    go_ret
    exact ⟨rfl,HWc.out⟩
   have a1':((al:Int)==1)=false:=by rw [beq_eq_false_iff_ne];omega
   have a2':((al:Int)==2)=false:=by rw [beq_eq_false_iff_ne];omega
   by_cases b5:bh=5
   ·subst b5
    obtain ⟨L,hL⟩:∃L,loadsM z=L:=⟨_,rfl⟩
    rw [hL] at hL4
    obtain ⟨z8,hz8⟩:∃z8,(z==8)=z8:=⟨_,rfl⟩
    obtain ⟨we,hwe⟩:∃we,(wd==z8)=we:=⟨_,rfl⟩
    have HG1:V=((!L.isEmpty)&&we):=by rw [←HGB.out,←hwe,←hz8,←hL];simp [goodB, *]
    have HG2:=Lib.hid HG1
    clear HGB hL HG1
    cases L with
    |nil=>
     have e0:((bA' []).toList==([]:List UInt8))=true:=by rw [bA'_eq];rfl
     go_wp2_with fail
     go_ret
     exact ⟨by rw [HG2.out];rfl,HWc.out⟩
    |cons b0 L=>
     have e0:((bA' (b0::L)).toList==([]:List UInt8))=false:=by rw [bA'_eq];rfl
     have e1:(bA' (b0::L)).toList.isEmpty=false:=by rw [bA'_toList];rfl
     go_wp2_with fail
     go_ret
     exact ⟨by rw [HG2.out];rfl,HWc.out⟩
   by_cases b6:bh=6
   ·subst b6
    obtain ⟨L,hL⟩:∃L,loadsM z=L:=⟨_,rfl⟩
    rw [hL] at hL4
    obtain ⟨z8,hz8⟩:∃z8,(z==8)=z8:=⟨_,rfl⟩
    obtain ⟨we,hwe⟩:∃we,(wd==z8)=we:=⟨_,rfl⟩
    have HG1:V=((!L.isEmpty)&&we):=by rw [←HGB.out,←hwe,←hz8,←hL];simp [goodB, *]
    have HG2:=Lib.hid HG1
    clear HGB hL HG1
    cases L with
    |nil=>
     have e0:((bA' []).toList==([]:List UInt8))=true:=by rw [bA'_eq];rfl
     go_wp2_with fail
     go_ret
     exact ⟨by rw [HG2.out];rfl,HWc.out⟩
    |cons b0 L=>
     have e0:((bA' (b0::L)).toList==([]:List UInt8))=false:=by rw [bA'_eq];rfl
     have e1:(bA' (b0::L)).toList.isEmpty=false:=by rw [bA'_toList];rfl
     go_wp2_with fail
     go_ret
     exact ⟨by rw [HG2.out];rfl,HWc.out⟩
   have b5':((bh:Int)==5)=false:=by rw [beq_eq_false_iff_ne];omega
   have b6':((bh:Int)==6)=false:=by rw [beq_eq_false_iff_ne];omega
   cases sh with
   |true=>
    by_cases g1: -128≤rl
    ·by_cases g2:rl≤127
     ·by_cases g3:(k:Int)=15
      ·obtain rfl:V=true:=by rw [←HGB.out];simp [goodB, *]
       clear HGB
       go_wp2_with fail
       go_ret
       exact ⟨rfl,HWc.out⟩
      ·obtain rfl:V=cb:=by rw [←HGB.out];simp [goodB, *];first|(rw [beq_eq_false_iff_ne.2 g3,←hcb];simp)|(rw [←hcb];simp)
       clear HGB
       go_wp2_with (go_at_call 110;(with_reducible refine (HCC.out).mono ?_);rintro e w5 ⟨rfl,hf5⟩)
       go_ret
       exact ⟨rfl,HWc.out.trans hf5⟩
     ·obtain rfl:V=false:=by rw [←HGB.out];simp [goodB, *]
      clear HGB
      go_wp2_with fail
      go_ret
      exact ⟨rfl,HWc.out⟩
    ·obtain rfl:V=false:=by rw [←HGB.out];simp [goodB, *]
     clear HGB
     go_wp2_with fail
     go_ret
     exact ⟨rfl,HWc.out⟩
   |false=>
    by_cases g3:(k:Int)=16
    ·obtain rfl:V=cb:=by rw [←HGB.out];simp [goodB, *];first|(rw [beq_eq_false_iff_ne.2 g3,←hcb];simp)|(rw [←hcb];simp)
     clear HGB
     go_wp2_with (go_at_call 110;(with_reducible refine (HCC.out).mono ?_);rintro e w5 ⟨rfl,hf5⟩)
     go_ret
     exact ⟨rfl,HWc.out.trans hf5⟩
    ·obtain rfl:V=true:=by rw [←HGB.out];simp [goodB, *]
     clear HGB
     go_wp2_with fail
     go_ret
     exact ⟨rfl,HWc.out⟩
end Go.Proofs.YtfmcmfiebehhiaaGreatDoor

