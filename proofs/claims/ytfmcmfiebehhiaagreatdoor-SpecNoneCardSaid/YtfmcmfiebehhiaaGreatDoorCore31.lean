/- firewallref11: bytes put together (b, rex, pair, memory, rel). Regions that draw their order: what operands hold is told from the operations' text. firewalllaw12.Set, firewalllaw13.Put: the boxes .. -/
import Derived.Test.YtfmcmfiebehhiaaGreatDoorCore30
import Derived.Test.YtfmcmfiebehhiaaGreatDoorCore8
import Derived.Deep.CutRange
set_option linter.all false
set_option linter.unusedVariables false
set_option linter.unusedSimpArgs false
set_option maxRecDepth 100000
set_option maxHeartbeats 1000000
namespace Go.Proofs.YtfmcmfiebehhiaaGreatDoor
open Go.Proofs.Tryz
open Go.RowKit
theorem byteM_toNat(n):((byteM n).toNat:Int)=n%256:=by
 unfold byteM
 rw [u8_toNat _ (by omega)]
 omega
theorem str_one(n)(W:World):(convert 22 9 (.slice (some ⟨W.heap.size,0,none⟩) 1 1)).run prog (W.alloc (.cells #[.int .u8 (n%256)] 5))= .ok (.string (bA' [byteM n])) (W.alloc (.cells #[.int .u8 (n%256)] 5)):=by
 have h:=str_at (CellsAt.new W (u8s [byteM n]) 5) 1
 have e:(u8s [byteM n]).toArray= #[.int .u8 (n%256)]:=by simp [u8s,byteM_toNat]
 rw [e] at h
 exact h
theorem rb_any(L:List Int)(g off n c w)(hc:CellsAt w g off (L.map (Value.int .i64)))(hn:L.length=n)(hm:n≤1000):
  Calls prog 47 #[.slice (some ⟨g,off,none⟩) n c] w fun e w'=>e= .returned (.string (bA' (L.map byteM)))∧Fr No w w':=by
 have HC:=Lib.hid hc
 have HN:=Lib.hid hn
 obtain ⟨M,hM⟩:∃M,L.map byteM=M:=⟨_,rfl⟩
 have HM:=Lib.hid hM
 rw [hM]
 clear hc hn hM
 go_enter func47,ntmps47
 go_wp2_with fail
 go_loopw [3,4] (fun s i wr=>∃k:Nat,k≤n∧s= .string (bA' (M.take k))∧i= .int .i64 k∧Hid (Fr No w wr)) (fun _ i _=>n-(intOf i).toNat)
 case atStart=>exact ⟨0,Nat.zero_le _,rfl,rfl,Fr.refl _ _⟩
 case round=>
  obtain ⟨k,hk,rfl,rfl,HF⟩:=hrel
  by_cases hlt:k<n
  ·obtain ⟨z,hz⟩:∃z,L[k]? =some z:=⟨L[k]'(by rw [HN.out];exact hlt),List.getElem?_eq_getElem _⟩
   have k0:=i64J_cell (HF.out.cells HC.out id) hz
   have hM1:M[k]? =some (byteM z):=by rw [←HM.out,List.getElem?_map,hz];rfl
   have e:M.take (k+1)=M.take k++ [byteM z]:=by
    rw [List.take_add_one,hM1];simp
   have a1:=addL (M.take k) [byteM z] (by simp;omega) (by simp)
   rw [←e] at a1
   have a2:=str_one z
   clear e hz hM1
   go_wp2_with fail
   go_roundw
   case rel=>exact ⟨k+1,by omega,rfl,by go_num,HF.out.trans (fr_alloc _ _)⟩
   case measure=>simp [intOf]<;>omega
  ·obtain rfl:k=n:=by omega
   have e:M.take k=M:=by rw [←HN.out,←HM.out,←List.length_map (f:=byteM),List.take_length]
   rw [e]
   clear e
   go_wp2_with fail
   go_ret
   exact ⟨rfl,HF.out⟩
theorem rb1(n)(W:World):Calls prog 47 #[.slice (some ⟨W.heap.size,0,none⟩) 1 1] (W.alloc (.cells #[.int .i64 n] 3)) fun e w'=>e= .returned (.string (bA' [byteM n]))∧Fr No W w':=
 (rb_any [n] _ 0 1 1 _ (CellsAt.new W [.int .i64 n] _) rfl (by decide)).mono fun _ _ h=>⟨h.1,(fr_alloc _ _).trans h.2⟩
theorem rb2(n m)(W:World):Calls prog 47 #[.slice (some ⟨W.heap.size,0,none⟩) 2 2] (W.alloc (.cells #[.int .i64 n, .int .i64 m] 3)) fun e w'=>e= .returned (.string (bA' [byteM n,byteM m]))∧Fr No W w':=
 (rb_any [n,m] _ 0 2 2 _ (CellsAt.new W [.int .i64 n, .int .i64 m] _) rfl (by decide)).mono fun _ _ h=>⟨h.1,(fr_alloc _ _).trans h.2⟩
theorem rb3(n m o)(W:World):Calls prog 47 #[.slice (some ⟨W.heap.size,0,none⟩) 3 3] (W.alloc (.cells #[.int .i64 n, .int .i64 m, .int .i64 o] 3)) fun e w'=>e= .returned (.string (bA' [byteM n,byteM m,byteM o]))∧Fr No W w':=
 (rb_any [n,m,o] _ 0 3 3 _ (CellsAt.new W [.int .i64 n, .int .i64 m, .int .i64 o] _) rfl (by decide)).mono fun _ _ h=>⟨h.1,(fr_alloc _ _).trans h.2⟩
def rexR(wide:Bool)(r m:Nat)(always:Bool):List UInt8:=
 if (0x40+r/8*4+m/8+(if wide then 8 else 0)=0x40∧always=false) then [] else [byteM ((0x40+r/8*4+m/8+(if wide then 8 else 0):Nat):Int)]
def pairR(r m:Nat):List UInt8:= [byteM ((0xc0+r%8*8+m%8:Nat):Int)]
def memR(r m:Nat)(disp:Int):List UInt8:= [byteM ((0x80+r%8*8+m%8:Nat):Int)]++(if m%8=4 then [0x24] else [])++bytesI disp 4
def relR(x:XI)(short long:List UInt8):List UInt8:=if x.short then short++bytesI x.rel 1 else long++bytesI x.rel 4
theorem rrex_any(wide:Bool)(r m:Nat)(always:Bool)(hr:r<16)(hm:m<16)(w:World):
  Calls prog 46 #[.bool wide, .int .i64 r, .int .i64 m, .bool always] w fun e w'=>e= .returned (.string (bA' (rexR wide r m always)))∧Fr No w w':=by
 have HB:Hid (∀(n:Int) (W:World),Calls prog 47 #[.slice (some ⟨W.heap.size,0,none⟩) 1 1] (W.alloc (.cells #[.int .i64 n] 3)) fun e w'=>e= .returned (.string (bA' [byteM n]))∧Fr No W w'):=fun n W=>rb1 n W
 obtain ⟨a,ha⟩:∃a,r/8=a:=⟨_,rfl⟩
 obtain ⟨b,hb⟩:∃b,m/8=b:=⟨_,rfl⟩
 have h1:(r:Int).tdiv 8=(a:Int):=by rw [Int.tdiv_eq_ediv_of_nonneg (by omega)];omega
 have h2:(m:Int).tdiv 8=(b:Int):=by rw [Int.tdiv_eq_ediv_of_nonneg (by omega)];omega
 have ha2:a≤1:=by omega
 have hb2:b≤1:=by omega
 unfold rexR
 rw [ha,hb]
 clear ha hb hr hm
 obtain rfl|rfl:a=0∨a=1:=by omega
 all_goals obtain rfl|rfl:b=0∨b=1:=by omega
 all_goals cases wide
 all_goals cases always
 all_goals simp only [Int.natCast_zero,Int.natCast_one] at h1 h2
 all_goals clear ha2 hb2
 all_goals (go_enter func46,ntmps46)
 all_goals go_wp2_with (first|(go_at_call 47;(with_reducible refine (HB.out 64 _).mono ?_);rintro e w' ⟨rfl,hf⟩)|(go_at_call 47;(with_reducible refine (HB.out 65 _).mono ?_);rintro e w' ⟨rfl,hf⟩)|(go_at_call 47;(with_reducible refine (HB.out 68 _).mono ?_);rintro e w' ⟨rfl,hf⟩)|(go_at_call 47;(with_reducible refine (HB.out 69 _).mono ?_);rintro e w' ⟨rfl,hf⟩)|(go_at_call 47;(with_reducible refine (HB.out 72 _).mono ?_);rintro e w' ⟨rfl,hf⟩)|(go_at_call 47;(with_reducible refine (HB.out 73 _).mono ?_);rintro e w' ⟨rfl,hf⟩)|(go_at_call 47;(with_reducible refine (HB.out 76 _).mono ?_);rintro e w' ⟨rfl,hf⟩)|(go_at_call 47;(with_reducible refine (HB.out 77 _).mono ?_);rintro e w' ⟨rfl,hf⟩))
 all_goals go_ret
 all_goals first|exact ⟨rfl,hf⟩|exact ⟨rfl,Fr.refl _ _⟩
theorem rpair_any(r m:Nat)(hr:r<16)(hm:m<16)(w:World):
  Calls prog 48 #[.int .i64 r, .int .i64 m] w fun e w'=>e= .returned (.string (bA' (pairR r m)))∧Fr No w w':=by
 have HB:Hid (∀(n:Int) (W:World),Calls prog 47 #[.slice (some ⟨W.heap.size,0,none⟩) 1 1] (W.alloc (.cells #[.int .i64 n] 3)) fun e w'=>e= .returned (.string (bA' [byteM n]))∧Fr No W w'):=fun n W=>rb1 n W
 unfold pairR
 obtain ⟨a,ha⟩:∃a,r%8=a:=⟨_,rfl⟩
 obtain ⟨b,hb⟩:∃b,m%8=b:=⟨_,rfl⟩
 have h1:(r:Int).tmod 8=(a:Int):=by rw [Int.tmod_eq_emod_of_nonneg (by omega)];omega
 have h2:(m:Int).tmod 8=(b:Int):=by rw [Int.tmod_eq_emod_of_nonneg (by omega)];omega
 have ha2:a<8:=by omega
 have hb2:b<8:=by omega
 have q1:RowKit.wrap64 ((a:Int)*8)=(a:Int)*8:=IntWalk.wrap64_in _ (by omega)
 have q2:RowKit.wrap64 (192+(a:Int)*8)=192+(a:Int)*8:=IntWalk.wrap64_in _ (by omega)
 have q3:RowKit.wrap64 (192+(a:Int)*8+(b:Int))=192+(a:Int)*8+b:=IntWalk.wrap64_in _ (by omega)
 have e:Hid (192+(a:Int)*8+b=((192+a*8+b:Nat):Int)):=by refine Lib.hid ?_;omega
 rw [ha,hb,←e.out]
 clear ha hb hr hm e
 go_enter func48,ntmps48
 go_wp2_with (go_at_call 47;(with_reducible refine (HB.out _ _).mono ?_);rintro e w' ⟨rfl,hf⟩)
 go_ret
 exact ⟨rfl,hf⟩
theorem refbytes_I(v:Int)(n:Nat)(hn:n≤8)(w:World):Calls prog 49 #[.int .u64 (IntKind.u64.wrap v), .int .i64 n] w fun e w'=>e= .returned (.string (bA' (bytesI v n)))∧Fr No w w':=by
 have e:IntKind.u64.wrap v=(((v%18446744073709551616).toNat:Nat):Int):=by rw [IntKind.wrap_u64];omega
 unfold bytesI
 rw [e]
 exact (refbytes_any _ n w (by omega) hn).mono fun e w' h=>⟨h.1,Fr.of_below h.2⟩
theorem rmemory_any(r m:Nat)(disp:Int)(hr:r<16)(hm:m<16)(w:World):
  Calls prog 50 #[.int .i64 r, .int .i64 m, .int .i32 disp] w fun e w'=>e= .returned (.string (bA' (memR r m disp)))∧Fr No w w':=by
 have HB:Hid (∀(n:Int) (W:World),Calls prog 47 #[.slice (some ⟨W.heap.size,0,none⟩) 1 1] (W.alloc (.cells #[.int .i64 n] 3)) fun e w'=>e= .returned (.string (bA' [byteM n]))∧Fr No W w'):=fun n W=>rb1 n W
 have HY:Hid (∀(W:World),Calls prog 49 #[.int .u64 (IntKind.u64.wrap disp), .int .i64 4] W fun e w'=>e= .returned (.string (bA' (bytesI disp 4)))∧Fr No W w'):=fun W=>refbytes_I disp 4 (by decide) W
 have hlen:(bytesI disp 4).length=4:=by unfold bytesI;rw [leBytes_length]
 unfold memR
 generalize bytesI disp 4=D at*
 obtain ⟨a,ha⟩:∃a,r%8=a:=⟨_,rfl⟩
 obtain ⟨b,hb⟩:∃b,m%8=b:=⟨_,rfl⟩
 have h1:(r:Int).tmod 8=(a:Int):=by rw [Int.tmod_eq_emod_of_nonneg (by omega)];omega
 have h2:(m:Int).tmod 8=(b:Int):=by rw [Int.tmod_eq_emod_of_nonneg (by omega)];omega
 have ha2:a<8:=by omega
 have hb2:b<8:=by omega
 have q1:RowKit.wrap64 ((a:Int)*8)=(a:Int)*8:=IntWalk.wrap64_in _ (by omega)
 have q2:RowKit.wrap64 (128+(a:Int)*8)=128+(a:Int)*8:=IntWalk.wrap64_in _ (by omega)
 have q3:RowKit.wrap64 (128+(a:Int)*8+(b:Int))=128+(a:Int)*8+b:=IntWalk.wrap64_in _ (by omega)
 have e:Hid (128+(a:Int)*8+b=((128+a*8+b:Nat):Int)):=by refine Lib.hid ?_;omega
 rw [ha,hb,←e.out]
 clear ha hb hr hm e
 obtain ⟨B,hB⟩:∃B,byteM (128+(a:Int)*8+b)=B:=⟨_,rfl⟩
 have s1:=addL [B] [byteM 36] (by simp) (by simp)
 have s2:=addL [B] D (by simp) (by omega)
 have s3:=addL ([B]++ [byteM 36]) D (by simp) (by omega)
 by_cases h4:b=4
 ·subst h4
  have HR:Hid ([byteM (128+(a:Int)*8+((4:Nat):Int))]++(if 4=4 then ([0x24]:List UInt8) else [])++D= [B]++ [byteM 36]++D):=by refine Lib.hid ?_;rw [hB];rfl
  rw [HR.out]
  rw [show (((4:Nat):Int))=4 from rfl] at*
  have HB1:Hid (∀(W:World),Calls prog 47 #[.slice (some ⟨W.heap.size,0,none⟩) 1 1] (W.alloc (.cells #[.int .i64 (128+(a:Int)*8+4)] 3)) fun e w'=>e= .returned (.string (bA' [B]))∧Fr No W w'):=fun W=>hB ▸ HB.out _ W
  obtain ⟨T,hT⟩:∃T, [B]++ [byteM 36]=T:=⟨_,rfl⟩
  rw [hT] at s1 s3 ⊢
  clear hB hlen hT HR
  go_enter func50,ntmps50
  go_wp2_with (first
   |(go_at_call 47;(with_reducible refine (HB1.out _).mono ?_);rintro e w1 ⟨rfl,hf1⟩)
   |(go_at_call 47;(with_reducible refine (HB.out 36 _).mono ?_);rintro e w2 ⟨rfl,hf2⟩)
   |(go_at_call 49;(with_reducible refine (HY.out _).mono ?_);rintro e w3 ⟨rfl,hf3⟩))
  go_ret
  exact ⟨rfl,(hf1.trans hf2).trans hf3⟩
 ·have HR:Hid ([byteM (128+(a:Int)*8+(b:Int))]++(if b=4 then ([0x24]:List UInt8) else [])++D= [B]++D):=by refine Lib.hid ?_;rw [hB,if_neg h4];rfl
  rw [HR.out]
  have HB1:Hid (∀(W:World),Calls prog 47 #[.slice (some ⟨W.heap.size,0,none⟩) 1 1] (W.alloc (.cells #[.int .i64 (128+(a:Int)*8+b)] 3)) fun e w'=>e= .returned (.string (bA' [B]))∧Fr No W w'):=fun W=>hB ▸ HB.out _ W
  have h4':((b:Int)==4)=false:=by rw [beq_eq_false_iff_ne];omega
  obtain ⟨T,hT⟩:∃T, [B]++D=T:=⟨_,rfl⟩
  rw [hT] at s2 ⊢
  clear hB hlen hT HR h4 s1 s3
  go_enter func50,ntmps50
  go_wp2_with (first
   |(go_at_call 47;(with_reducible refine (HB1.out _).mono ?_);rintro e w1 ⟨rfl,hf1⟩)
   |(go_at_call 49;(with_reducible refine (HY.out _).mono ?_);rintro e w3 ⟨rfl,hf3⟩))
  go_ret
  exact ⟨rfl,hf1.trans hf3⟩
theorem rrel_any(x:XI)(S L:List UInt8)(hS:S.length≤10)(hL:L.length≤10)(w):
  Calls prog 51 #[x.agg, .string (bA' S), .string (bA' L)] w fun e w'=>e= .returned (.string (bA' (relR x S L)))∧Fr No w w':=by
 obtain ⟨k,a,c,z,wd,sh,d,r,dp,rl,im⟩:=x
 have HY1:Hid (∀(W:World),Calls prog 49 #[.int .u64 (IntKind.u64.wrap rl), .int .i64 1] W fun e w'=>e= .returned (.string (bA' (bytesI rl 1)))∧Fr No W w'):=fun W=>refbytes_I rl 1 (by decide) W
 have HY4:Hid (∀(W:World),Calls prog 49 #[.int .u64 (IntKind.u64.wrap rl), .int .i64 4] W fun e w'=>e= .returned (.string (bA' (bytesI rl 4)))∧Fr No W w'):=fun W=>refbytes_I rl 4 (by decide) W
 have h1:(bytesI rl 1).length=1:=by unfold bytesI;rw [leBytes_length]
 have h4:(bytesI rl 4).length=4:=by unfold bytesI;rw [leBytes_length]
 have s1:=addL S (bytesI rl 1) (by omega) (by omega)
 have s4:=addL L (bytesI rl 4) (by omega) (by omega)
 unfold relR
 simp only [XI.agg]
 generalize S++bytesI rl 1=A at*
 generalize L++bytesI rl 4=B at*
 generalize bytesI rl 1=C at*
 generalize bytesI rl 4=D at*
 clear h1 h4
 cases sh
 ·go_enter func51,ntmps51
  go_wp2_with (go_at_call 49;(with_reducible refine (HY4.out _).mono ?_);rintro e w3 ⟨rfl,hf3⟩)
  go_ret
  exact ⟨rfl,(fr_alloc _ _).trans hf3⟩
 ·go_enter func51,ntmps51
  go_wp2_with (go_at_call 49;(with_reducible refine (HY1.out _).mono ?_);rintro e w3 ⟨rfl,hf3⟩)
  go_ret
  exact ⟨rfl,(fr_alloc _ _).trans hf3⟩
end Go.Proofs.YtfmcmfiebehhiaaGreatDoor
namespace Go.Proofs.YtfmcmfiebehhiaaGreatDoor
open Go.Proofs.Tryz
open Go.RowKit
def ixOf(ops:Array Oper)(d:Tmp):Nat:=((List.range ops.size).find? fun k=>dstOf ops k==some d).getD 0
def rhoV(ops:Array Oper)(C:List (Option Value))(base:List (Tmp×Value)):Operand→Value
 | .tmp d=>match base.find? (·.1==d) with
  |some e=>e.2
  |none=>(C.getD (ixOf ops d) none).getD undef
 |x=>(⟨#[], []⟩:Act).eval x
def rhoOk1(ops:Array Oper)(C:List (Option Value))(bs:List Tmp)(i:Nat):Operand→Bool
 | .tmp d=>bs.contains d||((preOf ops i).contains (ixOf ops d)&&(dstOf ops (ixOf ops d)==some d&&(C.getD (ixOf ops d) none).isSome))
 |_=>true
def isSelect:Op→Bool
 | .select _ _=>true
 |_=>false
def rhoOk(ops:Array Oper)(C:List (Option Value))(bs:List Tmp)(i:Nat)(o:Oper):Bool:= !isSelect o.op&&o.op.operands.toList.all (rhoOk1 ops C bs i)
def Known(ops:Array Oper)(C:List (Option Value))(a:Act)(k:Nat):Prop:=∀c,C.getD k none=some c→∀d,dstOf ops k=some d→a.tmps[d]? =some c
def AllAt(G:Nat→Oper→Prop):Nat→List Oper→Prop
 |_, []=>True
 |i,o::r=>G i o∧AllAt G (i+1) r
theorem AllAt.get{G:Nat→Oper→Prop}(l):∀(n:Nat),AllAt G n l→∀(i:Nat) (o:Oper),l[i]? =some o→G (n+i) o:=by
 induction l with
 |nil=>intro n _ i o h;simp at h
 |cons p r ih=>
  intro n h i o hp
  cases i with
  |zero=>
   simp only [List.getElem?_cons_zero,Option.some.injEq] at hp
   subst hp
   exact h.1
  |succ i=>
   have:=ih (n+1) h.2 i o (by simpa using hp)
   rwa [show n+1+i=n+(i+1) by omega] at this
theorem ops_all{ops:Array Oper}{G:Nat→Oper→Prop}(h:AllAt G 0 ops.toList)(i o)(ho:ops[i]? =some o):G i o:=by
 have:=AllAt.get ops.toList 0 h i o (by rw [←ho,Array.getElem?_toList])
 rwa [Nat.zero_add] at this
section
variable {P:Program} {ops:Array Oper} {Q:Exit→Act→World→Prop} {C:List (Option Value)} {base:List (Tmp×Value)} {a:Act} {W:World} {i:Nat}
theorem rho_one{x}(hK:∀k∈preOf ops i,Known ops C a k)(hb:Vals a base)(hk:rhoOk1 ops C (base.map (·.1)) i x=true):a.eval x=rhoV ops C base x:=by
 cases x with
 |tmp d=>
  unfold rhoV
  simp only
  cases hf:base.find? (·.1==d) with
  |some e=>
   have h1:=List.find?_some hf
   have h2:=List.mem_of_find?_eq_some hf
   have e1:e.1=d:=by simpa using h1
   exact evalT (e1 ▸ of_vals hb e h2)
  |none=>
   have hn:(base.map (·.1)).contains d=false:=by
    rw [List.find?_eq_none] at hf
    rw [Bool.eq_false_iff]
    intro hc
    simp only [List.contains_eq_mem,List.mem_map,decide_eq_true_eq] at hc
    obtain ⟨e,he,h2⟩:=hc
    exact hf e he (by simp [h2])
   unfold rhoOk1 at hk
   simp only [hn,Bool.false_or,Bool.and_eq_true] at hk
   obtain ⟨h1,h2,h3⟩:=hk
   obtain ⟨c,hc⟩:=Option.isSome_iff_exists.1 h3
   have:=hK _ (by simpa using h1) c hc d (by simpa using h2)
   rw [evalT this,hc]
   rfl
 |const v=>rfl
 |global g=>rfl
 |func f=>rfl
theorem rho_eq{o}(hK:∀k∈preOf ops i,Known ops C a k)(hb:Vals a base)(hk:rhoOk ops C (base.map (·.1)) i o=true):execOp a.eval o=execOp (rhoV ops C base) o:=by
 unfold rhoOk at hk
 rw [Bool.and_eq_true] at hk
 refine execOp_congr o (fun cs b e=> ?_) (fun x hx=> ?_)
 ·rw [e] at hk
  simp [isSelect] at hk
 ·exact rho_one hK hb (List.all_eq_true.1 hk.2 x (Array.mem_toList_iff.2 hx))
theorem CalmS.known{M:Nat→Value→World→Prop}(h:∀k∈preOf ops i,CalmS ops C M a W k):∀k∈preOf ops i,Known ops C a k:=fun k hk c hc d hd=>by
 obtain ⟨v,h1,_,h3⟩:=h k hk
 rw [h3 d hd,h1 c hc]
theorem Filled.known{h:Nat→Option Value}(hp:∀k∈preOf ops i,Filled ops C h a k):∀k∈preOf ops i,Known ops C a k:=fun k hk c hc d hd=>(hp k hk).pure hd hc
def MadeI(SL:List (Nat×List Int))(k:Nat)(v:Value)(W:World):Prop:=∀L,SL.lookup k=some L→∃b,v= .slice (some ⟨b,0,none⟩) L.length L.length∧CellsAt W b 0 (L.map (Value.int .i64))
def CalmG(P:Program)(ops:Array Oper)(Q:Exit→Act→World→Prop)(a0:Act)(w0:World)(base:List (Tmp×Value))(C:List (Option Value))(SL:List (Nat×List Int))(i:Nat)(o:Oper):Prop:=
 ∀(a:Act) (W:World),a.defers=a0.defers→Fr No w0 W→(∀k∈preOf ops i,CalmS ops C (MadeI SL) a W k)→Vals a base→Oper.wp P o a W (CalmQ C (MadeI SL) i o a W) Q
variable {SL:List (Nat×List Int)} {w0:World} {a0:Act}
theorem wp_calm{id}{a:Act}{w}(base:List (Tmp×Value))(C:List (Option Value))(SL:List (Nat×List Int))(hm:P.follows .mixedOrders=true)(hok:okOpsM ops=true)(hok1:okDst ops a.tmps.size=true)(hok2:okBase ops (base.map (·.1))=true)(hbase:Vals a base)(hop:AllAt (CalmG P ops Q a w base C SL) 0 ops.toList)(hfin:∀(V:Nat→Value) W,(∀k c,k<ops.size→C.getD k none=some c→V k=c)→Fr No w W→Q .normal (putsM ops V (List.range ops.size) a) W):(Code.region id ops true).wp P Q a w:=
 wp_region_calm base C (MadeI SL) (fun k v W W' h hf L hL=>by obtain ⟨b,e,hc⟩:=h L hL;exact ⟨b,e,hf.cells hc (fun q=>q)⟩) hm hok hok1 hok2 hbase (fun i o ho=>ops_all hop i o ho) hfin
theorem calm_r{o c}(hk:rhoOk ops C (base.map (·.1)) i o=true)(hc:C.getD i none=some c)(hr:∀W:World,(execOp (rhoV ops C base) o).run P W= .ok (.value c) W):CalmG P ops Q a0 w0 base C SL i o:=fun a W _ _ hpre hb=>
 calm_pure (by rw [rho_eq (CalmS.known hpre) hb hk];exact hr W) hc
theorem calm_l{t x}{d:Option Tmp}{ty pos af}{g:Option (Nat×Bool)}{c b j L}(hk:rhoOk1 ops C (base.map (·.1)) i x=true)(hc:C.getD i none=some c)(hX:CellsAt w0 b 0 L)(hx:rhoV ops C base x= .pointer (some ⟨b,j,none⟩))(hj:L[j]? =some c)(hr:∀W:World,W.cell? ⟨b,j,none⟩=some c→(Instr.loadAt t (.pointer (some ⟨b,j,none⟩))).run P W= .ok c W):CalmG P ops Q a0 w0 base C SL i ⟨d, .load t x,ty,pos,af,g⟩:=fun a W _ hF hpre hb=>
 calm_pure (do_load ((rho_one (CalmS.known hpre) hb hk).trans hx) (hr W (by have:=hF.cells hX id j c hj;rwa [Nat.zero_add] at this))) hc
theorem calm_w{t x}{d:Option Tmp}{ty pos af}{g:Option (Nat×Bool)}{c b L}(hk:rhoOk1 ops C (base.map (·.1)) i x=true)(hc:C.getD i none=some c)(hX:CellsAt w0 b 0 L)(hx:rhoV ops C base x= .pointer (some ⟨b,0,none⟩))(hr:∀W:World,CellsAt W b 0 L→(Instr.loadAt t (.pointer (some ⟨b,0,none⟩))).run P W= .ok c W):CalmG P ops Q a0 w0 base C SL i ⟨d, .load t x,ty,pos,af,g⟩:=fun a W _ hF hpre hb=>
 calm_pure (do_load ((rho_one (CalmS.known hpre) hb hk).trans hx) (hr W (hF.cells hX id))) hc
theorem args_rho{args:Array Operand}(hK:∀k∈preOf ops i,Known ops C a k)(hb:Vals a base)(hk:args.toList.all (rhoOk1 ops C (base.map (·.1)) i)=true):args.map a.eval=args.map (rhoV ops C base):=
 Array.map_congr_left fun x hx=>rho_one hK hb (List.all_eq_true.1 hk x (Array.mem_toList_iff.2 hx))
theorem calm_c{f vs c}{args:Array Operand}{t}{d:Option Tmp}{ty pos af}{g:Option (Nat×Bool)}(hcall:∀W,Calls P f vs W fun e w'=>e= .returned c∧Fr No W w')(hk:args.toList.all (rhoOk1 ops C (base.map (·.1)) i)=true)(hc:C.getD i none=some c)(hv:args.map (rhoV ops C base)=vs)(hf:∀W:World,(callFunc f vs).run P W= .ok (.enter f vs) W):CalmG P ops Q a0 w0 base C SL i ⟨d, .call {callee:= .value (.func f),args:=args,argTypes:=t},ty,pos,af,g⟩:=fun a W _ _ hpre hb=>
 calm_call (do_enter (by rw [args_rho (CalmS.known hpre) hb hk,hv]) (hf W)) hc (hcall W)
theorem calm_s{o T}{L:List Int}(hk:rhoOk ops C (base.map (·.1)) i o=true)(hc:C.getD i none=none)(hL:SL.lookup i=some L)(hr:∀W:World,(execOp (rhoV ops C base) o).run P W= .ok (.value (.slice (some ⟨W.heap.size,0,none⟩) L.length L.length)) (W.alloc (.cells (L.map (Value.int .i64)).toArray T))):CalmG P ops Q a0 w0 base C SL i o:=fun a W _ _ hpre hb=>
 calm_make (by rw [rho_eq (CalmS.known hpre) hb hk];exact hr W) (fr_alloc _ _) hc (fun L' h'=>by rw [hL] at h';obtain rfl:=Option.some.inj h';exact ⟨_,rfl,CellsAt.new W _ _⟩)
theorem calm_b{f c s t}{d:Option Tmp}{ty pos af}{g:Option (Nat×Bool)}{L:List Int}(hL:SL.lookup (ixOf ops s)=some L)(hc:C.getD i none=some c)(hcall:∀b W,CellsAt W b 0 (L.map (Value.int .i64))→Calls P f #[.slice (some ⟨b,0,none⟩) L.length L.length] W fun e w'=>e= .returned c∧Fr No W w')(hk:((preOf ops i).contains (ixOf ops s)&&(dstOf ops (ixOf ops s)==some s&&(C.getD (ixOf ops s) none).isNone))=true)(hf:∀(v:Value) (W:World),(callFunc f #[v]).run P W= .ok (.enter f #[v]) W):CalmG P ops Q a0 w0 base C SL i ⟨d, .call {callee:= .value (.func f),args:= #[.tmp s],argTypes:=t},ty,pos,af,g⟩:=fun a W _ _ hpre hb=>by
 rw [Bool.and_eq_true,Bool.and_eq_true] at hk
 obtain ⟨v,hv,g1⟩:=calm_made hpre (ixOf ops s) s hk.1 (by simpa using hk.2.1) (by simpa using hk.2.2)
 obtain ⟨b,rfl,hb1⟩:=hv L hL
 exact calm_call (do_enter (vs:= #[.slice (some ⟨b,0,none⟩) L.length L.length]) (by simp [g1]) (hf _ W)) hc (hcall b W hb1)
def FldG(P:Program)(ops:Array Oper)(w0:World)(base:List (Tmp×Value))(C:List (Option Value))(b:Nat)(st:List (Nat×Nat×Value))(i:Nat)(o:Oper):Prop:=
 (∃c,C.getD i none=some c∧∀h (a:Act) W,Fr (fun k=>k=b) w0 W→(∀k∈preOf ops i,Filled ops C h a k)→Vals a base→(execOp a.eval o).run P W= .ok (.value c) W)∨
 (C.getD i none=none∧∃j v,(i,j,v)∈st∧∀h (a':Act) (W:World) (old:Value),W.cell? ⟨b,j,none⟩=some old→W.frozen? ⟨b,j,none⟩=false→(∀k∈preOf ops i,Filled ops C h a' k)→Vals a' base→(execOp a'.eval o).run P W= .ok .skip (W.setCell ⟨b,j,none⟩ v))
variable {b:Nat} {st:List (Nat×Nat×Value)}
theorem wp_fields{id}{a:Act}{w:World}(base:List (Tmp×Value))(C:List (Option Value))(b)(L:List Value)(st:List (Nat×Nat×Value))(hm:P.follows .mixedOrders=true)(hok:okOpsM ops=true)(hok1:okDst ops a.tmps.size=true)(hok2:okBase ops (base.map (·.1))=true)(hbase:Vals a base)(hL:CellsAt w b 0 L)(hO:∀j,w.frozen? ⟨b,j,none⟩=false)(hst:okStC L.length st=true)(hin:(st.all fun x=>decide (x.1<ops.size)&&(C.getD x.1 none).isNone)=true)(hop:AllAt (FldG P ops w base C b st) 0 ops.toList)(hfin:∀(V:Nat→Value) W,(∀k c,k<ops.size→C.getD k none=some c→V k=c)→PutS w b (doneC st L) W→Q .normal (putsM ops V (List.range ops.size) a) W):(Code.region id ops true).wp P Q a w:=by
 refine wp_region_fields base C b L st hm hok hok1 hok2 hbase hL hO hst hin (fun i o c ho hc h a W hF hpre hb=> ?_) (fun i o ho hc=> ?_) hfin
 ·rcases ops_all hop i o ho with ⟨c',h1,h2⟩|⟨h1,_⟩
  ·rw [hc] at h1
   obtain rfl:=Option.some.inj h1
   exact h2 h a W hF hpre hb
  ·rw [hc] at h1;cases h1
 ·rcases ops_all hop i o ho with ⟨c',h1,_⟩|⟨_,h2⟩
  ·rw [hc] at h1;cases h1
  ·exact h2
theorem fld_r{o c}(hk:rhoOk ops C (base.map (·.1)) i o=true)(hc:C.getD i none=some c)(hr:∀W:World,(execOp (rhoV ops C base) o).run P W= .ok (.value c) W):FldG P ops w0 base C b st i o:=
 .inl ⟨c,hc,fun h a W _ hpre hb=>by rw [rho_eq (Filled.known hpre) hb hk];exact hr W⟩
theorem fld_l{t x}{d:Option Tmp}{ty pos af}{g:Option (Nat×Bool)}{c b1 j L}(hk:rhoOk1 ops C (base.map (·.1)) i x=true)(hc:C.getD i none=some c)(hX:CellsAt w0 b1 0 L)(hn:b1≠b)(hx:rhoV ops C base x= .pointer (some ⟨b1,j,none⟩))(hj:L[j]? =some c)(hr:∀W:World,W.cell? ⟨b1,j,none⟩=some c→(Instr.loadAt t (.pointer (some ⟨b1,j,none⟩))).run P W= .ok c W):FldG P ops w0 base C b st i ⟨d, .load t x,ty,pos,af,g⟩:=
 .inl ⟨c,hc,fun h a W hF hpre hb=>do_load ((rho_one (Filled.known hpre) hb hk).trans hx) (hr W (by have:=hF.cells hX hn j c hj;rwa [Nat.zero_add] at this))⟩
theorem fld_s{t x y}{d:Option Tmp}{ty pos af}{g:Option (Nat×Bool)}{j v}(hc:C.getD i none=none)(hst:st.find? (·.1==i)=some (i,j,v))(hk:(rhoOk1 ops C (base.map (·.1)) i x&&rhoOk1 ops C (base.map (·.1)) i y)=true)(hx:rhoV ops C base x= .pointer (some ⟨b,j,none⟩))(hy:rhoV ops C base y=v)(hr:∀(W:World) (old:Value),W.cell? ⟨b,j,none⟩=some old→W.frozen? ⟨b,j,none⟩=false→(Instr.storeAt t (.pointer (some ⟨b,j,none⟩)) v).run P W= .ok () (W.setCell ⟨b,j,none⟩ v)):FldG P ops w0 base C b st i ⟨d, .store t x y,ty,pos,af,g⟩:=by
 rw [Bool.and_eq_true] at hk
 exact .inr ⟨hc,j,v,List.mem_of_find?_eq_some hst,fun h a W old h1 h2 hpre hb=>do_store1 ((rho_one (Filled.known hpre) hb hk.1).trans hx) ((rho_one (Filled.known hpre) hb hk.2).trans hy) (hr W old h1 h2)⟩
theorem qR{o c}(hk:rhoOk ops C (base.map (·.1)) i o=true:=by kernel_rfl)(hc:C.getD i none=some c:=by rfl)(hr:∀W:World,(execOp (rhoV ops C base) o).run P W= .ok (.value c) W:=by intro _;kernel_rfl):CalmG P ops Q a0 w0 base C SL i o:=calm_r hk hc hr
theorem qL{t x}{d:Option Tmp}{ty pos af}{g:Option (Nat×Bool)}{c b L}(j)(hX:CellsAt w0 b 0 L)(hk:rhoOk1 ops C (base.map (·.1)) i x=true:=by kernel_rfl)(hc:C.getD i none=some c:=by rfl)(hx:rhoV ops C base x= .pointer (some ⟨b,j,none⟩):=by kernel_rfl)(hj:L[j]? =some c:=by rfl)(hr:∀W:World,W.cell? ⟨b,j,none⟩=some c→(Instr.loadAt t (.pointer (some ⟨b,j,none⟩))).run P W= .ok c W:=by intro _ q;simp [go_sem,q]):CalmG P ops Q a0 w0 base C SL i ⟨d, .load t x,ty,pos,af,g⟩:=calm_l hk hc hX hx hj hr
theorem qW{t x}{d:Option Tmp}{ty pos af}{g:Option (Nat×Bool)}{c b L}(hX:CellsAt w0 b 0 L)(hr:∀W:World,CellsAt W b 0 L→(Instr.loadAt t (.pointer (some ⟨b,0,none⟩))).run P W= .ok c W)(hk:rhoOk1 ops C (base.map (·.1)) i x=true:=by kernel_rfl)(hc:C.getD i none=some c:=by rfl)(hx:rhoV ops C base x= .pointer (some ⟨b,0,none⟩):=by kernel_rfl):CalmG P ops Q a0 w0 base C SL i ⟨d, .load t x,ty,pos,af,g⟩:=calm_w hk hc hX hx hr
theorem qC{f vs c}{args:Array Operand}{t}{d:Option Tmp}{ty pos af}{g:Option (Nat×Bool)}(hcall:∀W,Calls P f vs W fun e w'=>e= .returned c∧Fr No W w')(hk:args.toList.all (rhoOk1 ops C (base.map (·.1)) i)=true:=by kernel_rfl)(hc:C.getD i none=some c:=by rfl)(hv:args.map (rhoV ops C base)=vs:=by kernel_rfl)(hf:∀W:World,(callFunc f vs).run P W= .ok (.enter f vs) W:=by intro _;kernel_rfl):CalmG P ops Q a0 w0 base C SL i ⟨d, .call {callee:= .value (.func f),args:=args,argTypes:=t},ty,pos,af,g⟩:=calm_c hcall hk hc hv hf
theorem qS{o}(T){L:List Int}(hk:rhoOk ops C (base.map (·.1)) i o=true:=by kernel_rfl)(hc:C.getD i none=none:=by rfl)(hL:SL.lookup i=some L:=by rfl)(hr:∀W:World,(execOp (rhoV ops C base) o).run P W= .ok (.value (.slice (some ⟨W.heap.size,0,none⟩) L.length L.length)) (W.alloc (.cells (L.map (Value.int .i64)).toArray T)):=by intro _;kernel_rfl):CalmG P ops Q a0 w0 base C SL i o:=calm_s hk hc hL hr
theorem qB{f c s t}{d:Option Tmp}{ty pos af}{g:Option (Nat×Bool)}{L:List Int}(hcall:∀b W,CellsAt W b 0 (L.map (Value.int .i64))→Calls P f #[.slice (some ⟨b,0,none⟩) L.length L.length] W fun e w'=>e= .returned c∧Fr No W w')(hL:SL.lookup (ixOf ops s)=some L:=by rfl)(hc:C.getD i none=some c:=by rfl)(hk:((preOf ops i).contains (ixOf ops s)&&(dstOf ops (ixOf ops s)==some s&&(C.getD (ixOf ops s) none).isNone))=true:=by kernel_rfl)(hf:∀(v:Value) (W:World),(callFunc f #[v]).run P W= .ok (.enter f #[v]) W:=by intro _ _;kernel_rfl):CalmG P ops Q a0 w0 base C SL i ⟨d, .call {callee:= .value (.func f),args:= #[.tmp s],argTypes:=t},ty,pos,af,g⟩:=calm_b hL hc hcall hk hf
theorem oR{o c}(hk:rhoOk ops C (base.map (·.1)) i o=true:=by kernel_rfl)(hc:C.getD i none=some c:=by rfl)(hr:∀W:World,(execOp (rhoV ops C base) o).run P W= .ok (.value c) W:=by intro _;kernel_rfl):FldG P ops w0 base C b st i o:=fld_r hk hc hr
theorem oL{t x}{d:Option Tmp}{ty pos af}{g:Option (Nat×Bool)}{c b1 L}(j)(hX:CellsAt w0 b1 0 L)(hn:b1≠b:=by omega)(hk:rhoOk1 ops C (base.map (·.1)) i x=true:=by kernel_rfl)(hc:C.getD i none=some c:=by rfl)(hx:rhoV ops C base x= .pointer (some ⟨b1,j,none⟩):=by kernel_rfl)(hj:L[j]? =some c:=by rfl)(hr:∀W:World,W.cell? ⟨b1,j,none⟩=some c→(Instr.loadAt t (.pointer (some ⟨b1,j,none⟩))).run P W= .ok c W:=by intro _ q;simp [go_sem,q]):FldG P ops w0 base C b st i ⟨d, .load t x,ty,pos,af,g⟩:=fld_l hk hc hX hn hx hj hr
theorem oS{t x y}{d:Option Tmp}{ty pos af}{g:Option (Nat×Bool)}{j v}(hc:C.getD i none=none:=by rfl)(hst:st.find? (·.1==i)=some (i,j,v):=by rfl)(hk:(rhoOk1 ops C (base.map (·.1)) i x&&rhoOk1 ops C (base.map (·.1)) i y)=true:=by kernel_rfl)(hx:rhoV ops C base x= .pointer (some ⟨b,j,none⟩):=by kernel_rfl)(hy:rhoV ops C base y=v:=by kernel_rfl)(hr:∀(W:World) (old:Value),W.cell? ⟨b,j,none⟩=some old→W.frozen? ⟨b,j,none⟩=false→(Instr.storeAt t (.pointer (some ⟨b,j,none⟩)) v).run P W= .ok () (W.setCell ⟨b,j,none⟩ v):=by intro _ _ q1 q2;simp [go_sem,q1,q2]):FldG P ops w0 base C b st i ⟨d, .store t x y,ty,pos,af,g⟩:=fld_s hc hst hk hx hy hr
end
end Go.Proofs.YtfmcmfiebehhiaaGreatDoor
namespace Go.Proofs.YtfmcmfiebehhiaaGreatDoor
open Go.Proofs.Tryz
open Go.RowKit
abbrev pbj(b j:Nat):Value:= .pointer (some ⟨b,j,none⟩)
theorem wp_box{P}{c:Code}{Q a W}(R:World→Prop)(hR:R W)(h:∀W1,R W1→c.wp P Q a W1):c.wp P Q a W:=h W hR
theorem StX.put{w0 w:World}{x u y y':XI}(h:StX w0 x u y w){j}(hj:j<11){v}(e:y.cells.set j v=y'.cells):StX w0 x u y' (w.setCell ⟨w0.heap.size+1+1,j,none⟩ v):=by
 have hf:Fr (fun k=>k=w0.heap.size+1+1) w (w.setCell ⟨w0.heap.size+1+1,j,none⟩ v):=(Fr.refl (fun k=>k=w0.heap.size+1+1) w).setCell (p:=⟨w0.heap.size+1+1,j,none⟩) (.inr rfl) _
 exact ⟨(h.fr.any.trans (hf.mono fun k _ hk=>by show w0.heap.size≤k;omega):Fr (From w0) w0 _).ours,h.x.fr hf (by omega),h.res.fr hf (by omega),by rw [←e];exact h.y.cells.set1 (by rw [XI.cells_len];exact hj) v,fun j'=>by rw [World.frozen?_setCell];exact h.y.open_ j'⟩
theorem StX.region{w0 w W:World}{x u y y':XI}(h:StX w0 x u y w)(hp:PutS w (w0.heap.size+1+1) y'.cells W):StX w0 x u y' W:=
 ⟨(h.fr.any.trans (hp.fr.mono fun k _ hk=>by show w0.heap.size≤k;omega):Fr (From w0) w0 W).ours,h.x.fr hp.fr (by omega),h.res.fr hp.fr (by omega),hp.cells,hp.open_⟩
theorem StX.no{w0 w w' x u y}(h:StX w0 x u y w)(hf:Fr No w w'):StX w0 x u y w':=⟨h.fr.trans hf,h.x.fr hf id,h.res.fr hf id,h.y.fr hf id⟩
theorem StX.start0(w:World)(x y:XI)(t1 t2 t3):StX w x XI.zero y (((w.alloc (.cells x.cells.toArray t1)).alloc (.cells XI.zero.cells.toArray t2)).alloc (.cells y.cells.toArray t3)):=StX.start w x y t1 t2 t3 0
theorem wrap32_sx(v):RowKit.wrap32 v=sx v 32:=by
 unfold RowKit.wrap32 sx signI
 simp only [show (2:Nat)^32=4294967296 from rfl,show (2:Nat)^(32-1)=2147483648 from rfl,show (2:Int)^32=4294967296 from rfl]
 split<;>omega
theorem sx32_in(v): -2147483648≤sx v 32∧sx v 32≤2147483647:=sign32 _
theorem wrap64_sx(v):RowKit.wrap64 (sx v 32)=sx v 32:=IntWalk.wrap64_in _ (by have:=sx32_in v;omega)
theorem wrap8_sx(v):IntKind.i8.wrap v=sx v 8:=by
 unfold sx signI IntKind.wrap
 simp only [IntKind.bits,IntKind.signed,show (2:Nat)^8=256 from rfl,show (2:Nat)^(8-1)=128 from rfl,show (2:Int)^8=256 from rfl,show (2:Int)^(8-1)=128 from rfl,if_true]
 simp only [Bool.true_and,decide_eq_true_eq,ge_iff_le]
 by_cases h:(128:Int)≤v%256
 ·rw [if_pos h,if_neg (by omega)];omega
 ·rw [if_neg h,if_pos (by omega)];omega
theorem sx8_in(v): -128≤sx v 8∧sx v 8≤127:=sign8 _
theorem shl_m(m:Nat)(hm:m<4)(x y:Operand)(W:World):(do eqGuard .shl 3 x y (.int .i64 1) (.int .i64 m);binOp .shl 3 (.int .i64 1) (.int .i64 m):Sem Value).run prog W= .ok (.int .i64 ((2:Int)^m)) W:=
 match m,hm with
 |0,_=>by kernel_rfl
 |1,_=>by kernel_rfl
 |2,_=>by kernel_rfl
 |3,_=>by kernel_rfl
theorem pow8:∀m:Nat,m<4→((2:Int)^m==8)=decide ((m:Int)=3):=by decide+kernel
theorem tab_m(a n:Int)(h0:0<n)(h:n≤100):∃m:Nat,(m:Int)<n∧(a%n).toNat=m∧(RowKit.wrap64 (a.tmod n+n)).tmod n=(m:Int):=by
 have h1:=Int.lt_tmod_of_pos a h0
 have h2:=Int.tmod_lt_of_pos a h0
 have h3:=Int.emod_nonneg a (show n≠0 by omega)
 have h4:=Int.emod_lt_of_pos a h0
 refine ⟨(a%n).toNat,by omega,rfl,?_⟩
 rw [IntWalk.wrap64_in _ (by omega),rem_pos a n h0]
 omega
theorem idx6(m:Nat)(hm:(m:Int)<6)(W:World):(Instr.index 176 (.agg #[.int .i64 0, .int .i64 1, .int .i64 4, .int .i64 5, .int .i64 6, .int .i64 7]) (.int .i64 m)).run prog W= .ok (.int .i64 (alusL.getD m 0)) W:=
 match m,(show m<6 by omega) with
 |0,_=>by kernel_rfl
 |1,_=>by kernel_rfl
 |2,_=>by kernel_rfl
 |3,_=>by kernel_rfl
 |4,_=>by kernel_rfl
 |5,_=>by kernel_rfl
theorem idx3(m:Nat)(hm:(m:Int)<3)(W:World):(Instr.index 177 (.agg #[.int .i64 4, .int .i64 5, .int .i64 7]) (.int .i64 m)).run prog W= .ok (.int .i64 (shiftsL.getD m 0)) W:=
 match m,(show m<3 by omega) with
 |0,_=>by kernel_rfl
 |1,_=>by kernel_rfl
 |2,_=>by kernel_rfl
theorem idx10(m:Nat)(hm:(m:Int)<10)(W:World):(Instr.index 128 (.agg #[.int .i64 2, .int .i64 3, .int .i64 4, .int .i64 5, .int .i64 6, .int .i64 7, .int .i64 12, .int .i64 13, .int .i64 14, .int .i64 15]) (.int .i64 m)).run prog W= .ok (.int .i64 (condsL.getD m 0)) W:=
 match m,(show m<10 by omega) with
 |0,_=>by kernel_rfl
 |1,_=>by kernel_rfl
 |2,_=>by kernel_rfl
 |3,_=>by kernel_rfl
 |4,_=>by kernel_rfl
 |5,_=>by kernel_rfl
 |6,_=>by kernel_rfl
 |7,_=>by kernel_rfl
 |8,_=>by kernel_rfl
 |9,_=>by kernel_rfl
section
variable {ops:Array Oper} {C:List (Option Value)} {base:List (Tmp×Value)} {i b:Nat} {w0:World} {st:List (Nat×Nat×Value)}
theorem oI{op t x y t2}{d:Option Tmp}{ty pos af}{g:Option (Nat×Bool)}(u v){c}(hr:∀W,(do eqGuard op t x y u v;binOp op t u v:Sem Value).run prog W= .ok c W)(hk:(rhoOk1 ops C (base.map (·.1)) i x&&rhoOk1 ops C (base.map (·.1)) i y)=true:=by kernel_rfl)(hc:C.getD i none=some c:=by rfl)(hx:rhoV ops C base x=u:=by kernel_rfl)(hy:rhoV ops C base y=v:=by kernel_rfl):FldG prog ops w0 base C b st i ⟨d, .binOp op t x y t2,ty,pos,af,g⟩:=by
 rw [Bool.and_eq_true] at hk
 exact .inl ⟨c,hc,fun h a W _ hpre hb=>do_bin ((rho_one (Filled.known hpre) hb hk.1).trans hx) ((rho_one (Filled.known hpre) hb hk.2).trans hy) (hr W)⟩
theorem oV{s t x}{d:Option Tmp}{ty pos af}{g:Option (Nat×Bool)}(u){c}(hr:∀W,(convert s t u).run prog W= .ok c W)(hk:rhoOk1 ops C (base.map (·.1)) i x=true:=by kernel_rfl)(hc:C.getD i none=some c:=by rfl)(hx:rhoV ops C base x=u:=by kernel_rfl):FldG prog ops w0 base C b st i ⟨d, .convert s t x,ty,pos,af,g⟩:=
 .inl ⟨c,hc,fun h a W _ hpre hb=>do_convert ((rho_one (Filled.known hpre) hb hk).trans hx) (hr W)⟩
end
end Go.Proofs.YtfmcmfiebehhiaaGreatDoor

