/- firewalllaw13.Code: the bytes of instructions. firewalllaw13.comes: what code comes to in a bare world. firewalllaw14: Same, trace. firewalllaw14.guessed: the chapter's examples hold. (printed by .. -/
import Derived.Test.YtfmcmfiebehhiaaGreatDoorCore43
import Derived.Test.YtfmcmfiebehhiaaGreatDoorCore44
import Derived.Test.YtfmcmfiebehhiaaGreatDoorCore29
import Derived.Test.YtfmcmfiebehhiaaGreatDoorCore42
import Derived.Test.YtfmcmfiebehhiaaGreatDoorCore41
import Derived.Test.YtfmcmfiebehhiaaGreatDoorCore15
import Derived.ProofKit
import Derived.LaidMore
import Derived.OpenShut
import Derived.Stop.Joined
set_option linter.all false
set_option linter.unusedVariables false
set_option linter.unusedSimpArgs false
set_option maxRecDepth 100000
set_option maxHeartbeats 8000000
namespace Go.Proofs.YtfmcmfiebehhiaaGreatDoor
open Go.Proofs.Tryz
open Go.RowKit
def xflat(l:List XI):List Value:=l.flatMap XI.cells
def XsIn(w:World)(v:Value)(l:List XI):Prop:=(l= []∧∃a c,v= .slice a 0 c)∨∃g off cap,v= .slice (some ⟨g,off,none⟩) l.length cap∧CellsAt w g off (xflat l)
theorem XsIn.fr{w w' v l}(h:XsIn w v l)(hf:Fr No w w'):XsIn w' v l:=by
 rcases h with h|⟨g,off,cap,rfl,hc⟩
 ·exact .inl h
 ·exact .inr ⟨g,off,cap,rfl,hf.cells hc id⟩
theorem xflat_at{l k}{x:XI}(h:l[k]? =some x){j v}(hj:x.cells[j]? =some v):(xflat l)[k*11+j]? =some v:=by
 induction l generalizing k with
 |nil=>simp at h
 |cons y l ih=>
  have hjl:j<11:=by
   have:=(List.getElem?_eq_some_iff.1 hj).1
   rwa [XI.cells_len] at this
  unfold xflat at*
  rw [List.flatMap_cons]
  cases k with
  |zero=>
   simp only [List.getElem?_cons_zero,Option.some.injEq] at h
   subst h
   rw [List.getElem?_append_left (by rw [XI.cells_len];omega),Nat.zero_mul,Nat.zero_add]
   exact hj
  |succ k=>
   rw [List.getElem?_append_right (by rw [XI.cells_len];omega),XI.cells_len,show (k+1)*11+j-11=k*11+j by omega]
   exact ih (by simpa using h)
theorem xflat_cell{w g off l}(h:CellsAt w g off (xflat l)){k}{x:XI}(hx:l[k]? =some x):CellsAt w g (off+k*11) x.cells:=fun j v hj=>by
 rw [Nat.add_assoc]
 exact h _ _ (xflat_at hx hj)
theorem XI.atO{w:World}{b o}{x:XI}(h:CellsAt w b o x.cells):w.cell? ⟨b,o,none⟩=some (.int .i64 x.kind)∧w.cell? ⟨b,o+1,none⟩=some (.int .i64 x.alu)∧w.cell? ⟨b,o+2,none⟩=some (.int .i64 x.cond)∧w.cell? ⟨b,o+3,none⟩=some (.int .i64 x.size)∧w.cell? ⟨b,o+4,none⟩=some (.bool x.wide)∧w.cell? ⟨b,o+5,none⟩=some (.bool x.short)∧w.cell? ⟨b,o+6,none⟩=some (.int .i64 x.dst)∧w.cell? ⟨b,o+7,none⟩=some (.int .i64 x.src)∧w.cell? ⟨b,o+8,none⟩=some (.int .i32 x.disp)∧w.cell? ⟨b,o+9,none⟩=some (.int .i32 x.rel)∧w.cell? ⟨b,o+10,none⟩=some (.int .i64 x.imm):=
 ⟨h 0 _ rfl,h 1 _ rfl,h 2 _ rfl,h 3 _ rfl,h 4 _ rfl,h 5 _ rfl,h 6 _ rfl,h 7 _ rfl,h 8 _ rfl,h 9 _ rfl,h 10 _ rfl⟩
theorem enc_len(x:XI):((encodeM x).getD []).length≤25:=by
 unfold encodeM
 split
 ·simp
 ·simp only [Option.getD_some,List.length_append]
  have h1:(if x.kind=14∧x.size=2 then ([0x66]:List UInt8) else []).length≤1:=by split<;>simp
  have h2:∀m n:Int,(rexM x m n).length≤1:=fun m n=>by
   have q:∀(c:Prop) [Decidable c] (b:UInt8),(if c then ([]:List UInt8) else [b]).length≤1:=fun c _ b=>by split<;>simp
   unfold rexM
   exact q _ _
  have h3:(opcodeM x).length≤3:=by
   unfold opcodeM loadsM storesM
   repeat' split
   all_goals first|simp|skip
   have:∀k:Nat,(formsL.getD k FI.none).op.length≤3:=by
    intro k
    by_cases hk:k<22
    ·revert k;decide+kernel
    ·rw [List.getD_eq_getElem?_getD,List.getElem?_eq_none (by simp [formsL];omega)]
     decide
   exact this _
  have h4:(operandsM x (formM x.kind)).1.length≤10:=operands_len
  have h5:(bytesI x.imm (formM x.kind).imm).length≤8:=by
   unfold bytesI
   rw [leBytes_length]
   obtain ⟨_,h⟩:=forms_behind x.kind.toNat
   unfold formM
   omega
  have h2':=h2 (operandsM x (formM x.kind)).2.1 (operandsM x (formM x.kind)).2.2
  omega
theorem codeM_take(l:List XI)(k x)(h:l[k]? =some x):codeM (l.take (k+1))=codeM (l.take k)++(encodeM (putM x)).getD []:=by
 unfold codeM
 rw [List.take_add_one,h,List.flatMap_append]
 simp
theorem codeM_len(l:List XI):(codeM l).length≤l.length*25:=by
 induction l with
 |nil=>simp [codeM]
 |cons x l ih=>
  have:=enc_len (putM x)
  unfold codeM at*
  rw [List.flatMap_cons,List.length_append,List.length_cons]
  omega
theorem code_any(l:List XI)(v w)(h:XsIn w v l)(hl:l.length≤1000):Calls prog 9 #[v] w fun e w'=>e= .returned (.string (bA' (codeM l)))∧Fr No w w':=by
 rcases h with ⟨rfl,a,c,rfl⟩|⟨g,off,cap,rfl,hc⟩
 ·go_enter func9,ntmps9
  go_wp2_with fail
  refine wp_loop_rounds 1 ?_
  rw [rounds_succ]
  go_wp2_with fail
  go_ret
  exact ⟨rfl,Fr.refl _ _⟩
 ·have HC:=Lib.hid hc
  obtain ⟨n,hn⟩:∃n,l.length=n:=⟨_,rfl⟩
  have HN:=Lib.hid hn
  rw [hn] at hl ⊢
  have HP:Hid (∀x W,Calls prog 21 #[XI.agg x] W fun e w'=>e= .returned (putM x).agg∧Fr No W w'):=fun x W=>put_any x W
  have HE:Hid (∀x W,Calls prog 20 #[XI.agg x] W fun e w'=>e= .returned (encV x)∧Fr No W w'):=fun x W=>rencode_any x W
  clear hc hn
  go_enter func9,ntmps9
  go_wp2_with fail
  go_loopw [3,4] (fun s i wr=>∃k:Nat,k≤n∧s= .string (bA' (codeM (l.take k)))∧i= .int .i64 k∧Hid (Fr No w wr)) (fun _ i _=>n-(intOf i).toNat)
  case atStart=>exact ⟨0,Nat.zero_le _,rfl,rfl,Fr.refl _ _⟩
  case round=>
   obtain ⟨k,hk,rfl,rfl,HF⟩:=hrel
   by_cases hlt:k<n
   ·obtain ⟨x,hx⟩:∃x,l[k]? =some x:=⟨l[k]'(by rw [HN.out];exact hlt),List.getElem?_eq_getElem _⟩
    have k0:=xflat_cell (HF.out.cells HC.out id) hx
    have HT:Hid (codeM (l.take (k+1))=codeM (l.take k)++(encodeM (putM x)).getD []):=codeM_take l k x hx
    have z1:=codeM_len (l.take k)
    have z2:=enc_len (putM x)
    rw [List.length_take] at z1
    have HP1:=Lib.hid (HP.out x)
    obtain ⟨t,ht⟩:∃t,(encodeM (putM x)).getD []=t:=⟨_,rfl⟩
    have HE1:Hid (∀W,Calls prog 20 #[(putM x).agg] W fun e w'=>∃er,e= .returned (.tuple #[.string (bA' t), .int .i64 er])∧Fr No W w'):=fun W=>(HE.out (putM x) W).mono fun e w' ⟨he,hf⟩=>⟨if encodeM (putM x)=none then 2 else 0,by rw [he];unfold encV;rw [ht],hf⟩
    have a1:=addL (codeM (l.take k)) t (by omega) (by rw [←ht];omega)
    rw [ht] at HT z2
    rw [←HT.out] at a1
    generalize codeM (l.take k)=A at*
    obtain ⟨y,hy⟩:∃y,putM x=y:=⟨_,rfl⟩
    rw [hy] at HP1 HE1
    clear hy ht z1 z2 hx HP HE
    obtain ⟨c0,c1,c2,c3,c4,c5,c6,c7,c8,c9,c10⟩:=XI.atO k0
    unfold XI.agg at HP1 HE1
    go_wp2_with (first
     |(go_at_call 21;(with_reducible refine (HP1.out _).mono ?_);rintro e w3 ⟨rfl,hf3⟩)
     |(go_at_call 20;(with_reducible refine (HE1.out _).mono ?_);rintro e w4 ⟨er,rfl,hf4⟩))
    go_roundw
    case rel=>exact ⟨k+1,by omega,rfl,by go_num,(HF.out.trans hf3).trans hf4⟩
    case measure=>simp [intOf]<;>omega
   ·obtain rfl:k=n:=by omega
    have e:codeM (l.take k)=codeM l:=by rw [←HN.out,List.take_length]
    rw [e]
    clear e
    go_wp2_with fail
    go_ret
    exact ⟨rfl,HF.out⟩
theorem guard_out(xs ys op x y w):(eqGuard op 39 x y (.agg xs) (.agg ys)).run prog w= .ok () w:=run_eqGuard_agg w op _ x y xs ys (by kernel_rfl)
theorem samet_any(va vb:Value)(la lb:List Nat)(Ka Kb:Nat→Prop)(w:World)(ha:U64At w va la Ka)(hb:U64At w vb lb Kb)(hl:la.length≤1000000)(hl2:lb.length≤1000000):
  Calls prog 11 #[va,vb] w fun e w'=>e= .returned (.bool (decide (la=lb)))∧Fr No w w':=by
 obtain ⟨aa,ca,rfl⟩:=ha.form
 obtain ⟨ab,cb,rfl⟩:=hb.form
 have HA:=Lib.hid ha
 have HB:=Lib.hid hb
 clear ha hb
 obtain ⟨na,hna⟩:∃na,la.length=na:=⟨_,rfl⟩
 obtain ⟨nb,hnb⟩:∃nb,lb.length=nb:=⟨_,rfl⟩
 have HNA:=Lib.hid (And.intro hna hnb)
 rw [hna] at HA hl ⊢
 rw [hnb] at HB hl2 ⊢
 clear hna hnb
 obtain ⟨r,hr⟩:∃r,decide (la=lb)=r:=⟨_,rfl⟩
 have HR:=Lib.hid hr
 rw [hr]
 clear hr
 by_cases hn:na=nb
 ·subst hn
  have z1:(na !=na)=false:=by simp
  have z2:((na:Int) !=(na:Int))=false:=by simp
  go_enter func11,ntmps11
  go_upto_region 4 with fail
  go_loopw [5] (fun i wr=>∃(k:Nat),k≤na∧i= .int .i64 k∧Hid (la.take k=lb.take k)∧Hid (Fr No w wr)) (fun i _=>na-(intOf i).toNat)
  case atStart=>exact ⟨0,Nat.zero_le _,rfl,Lib.hid (by simp),Fr.refl _ _⟩
  case round=>
   obtain ⟨k,hk,rfl,HI,HF⟩:=hrel
   by_cases hlt:k<na
   ·obtain ⟨g1,o1,e1,k1⟩:=(HA.out.fr HF.out fun _ _=>id).at (i:=k) (by have:=HNA.out.1;omega)
    obtain ⟨g2,o2,e2,k2⟩:=(HB.out.fr HF.out fun _ _=>id).at (i:=k) (by have:=HNA.out.2;omega)
    subst e1 e2
    have c1:(0:Int)≤(k:Int):=by omega
    have c2:(k:Int)<(na:Int):=by omega
    have HX:Hid (la[k]? =some (la.getD k 0)∧lb[k]? =some (lb.getD k 0)):=by
     have h1:=HNA.out.1
     have h2:=HNA.out.2
     exact Lib.hid ⟨by rw [List.getD_eq_getElem?_getD,List.getElem?_eq_getElem (by omega),Option.getD_some],by rw [List.getD_eq_getElem?_getD,List.getElem?_eq_getElem (by omega),Option.getD_some]⟩
    generalize la.getD k 0=x at*
    generalize lb.getD k 0=y at*
    by_cases hxy:x=y
    ·subst hxy
     have z3:(x !=x)=false:=by simp
     have z4:((x:Int) !=(x:Int))=false:=by simp
     have HI2:Hid (la.take (k+1)=lb.take (k+1)):=Lib.hid (by rw [List.take_add_one,List.take_add_one,HI.out,HX.out.1,HX.out.2])
     go_upto_region 6 with fail
     go_quiet (fail)
     go_wp2_with fail
     go_roundw
     case rel=>exact ⟨k+1,by omega,by go_num,HI2,by first|exact HF|exact Lib.hid (HF.out.drewN _)⟩
     case measure=>simp [intOf]<;>omega
    ·have z3:(x !=y)=true:=by simpa using hxy
     have z4:((x:Int) !=(y:Int))=true:=by rw [bne_iff_ne];omega
     have HRF:Hid (r=false):=Lib.hid (by
      rw [←HR.out]
      exact decide_eq_false fun e=>hxy (by
       have h1:=HX.out.1
       rw [e,HX.out.2] at h1
       exact (Option.some.inj h1).symm))
     go_upto_region 6 with fail
     go_quiet (fail)
     go_wp2_with fail
     go_ret
     exact ⟨by (rw [HRF.out];try rfl),by first|exact HF.out|exact HF.out.drewN _⟩
   ·obtain rfl:k=na:=by omega
    have c2:¬(k:Int)<(k:Int):=by omega
    have HRF:Hid (r=true):=Lib.hid (by
     rw [←HR.out]
     have:=HI.out
     rw [List.take_of_length_le (by rw [HNA.out.1];exact Nat.le_refl _),List.take_of_length_le (by rw [HNA.out.2];exact Nat.le_refl _)] at this
     exact decide_eq_true this)
    go_wp2_with fail
    go_ret
    exact ⟨by (rw [HRF.out];try rfl),HF.out⟩
 ·have z1:(na !=nb)=true:=by simpa using hn
  have z2:((na:Int) !=(nb:Int))=true:=by rw [bne_iff_ne];omega
  have HRF:Hid (r=false):=Lib.hid (by
   rw [←HR.out]
   exact decide_eq_false fun e=>hn (by rw [←HNA.out.1,←HNA.out.2,e]))
  go_enter func11,ntmps11
  go_wp2_with fail
  go_ret
  exact ⟨by (rw [HRF.out];try rfl),Fr.refl _ _⟩
def TrTo(w:World)(tr:List Nat)(sq:Nat)(e:Ending)(w':World):Prop:=
 ∃ta tc,e= .returned (.tuple #[.slice ta tr.length tc, .int .i64 sq])∧Hid (U64At w' (.slice ta tr.length tc) tr (fun k=>w.heap.size≤k))∧Fr No w w'
theorem traceM_some{l:List XI}{tr:List Nat}{sq:Nat}(h:traceM l=some (tr,sq)):∃r k t,(specM [] (codeM l) 4 [1] 20 (startW [])).1= .ok (r,k,t)∧t.tr=tr∧t.sq=sq:=by
 unfold traceM at h
 split at h
 ·rename_i r k t he
  have e:=Option.some.inj h
  exact ⟨r,k,t,he,congrArg Prod.fst e,congrArg Prod.snd e⟩
 ·cases h
theorem memL0_ok:MemOk (memL 0 0 [] [] []):=⟨by decide+kernel,by decide+kernel⟩
theorem kinds_of{code:List UInt8}(h:∀i,i<code.length→((decodeM (code.drop i)).map fun q=>okk q.1.kind).getD true=true):∀pc x next,fetchM code pc=some (x,next)→okk x.kind=true:=by
 intro pc x next hf
 unfold fetchM at hf
 dsimp only at hf
 split at hf
 ·cases hf
 ·rename_i hlt
  split at hf
  ·cases hf
  ·rename_i u hu
   have e:=congrArg Prod.fst (Option.some.inj hf)
   have h2:=h (((pc:Int)-4194304)%18446744073709551616).toNat (by omega)
   rw [hu] at h2
   rw [←show u.1=x from e]
   exact h2
theorem trace_any(l:List XI)(v:Value)(w:World)(hm:MachAt w)(h:XsIn w v l)(hl:l.length≤100)(tr:List Nat)(sq:Nat)(ht:traceM l=some (tr,sq))(hkk:∀pc x next,fetchM (codeM l) pc=some (x,next)→okk x.kind=true):
  Calls prog 12 #[v] w fun e w'=>TrTo w tr sq e w':=by
 have HN:Hid (Calls prog 10 #[.agg #[.slice none 0 0, .int .i64 0], .agg #[.string ⟨#[]⟩, .int .u64 0, .slice none 0 0, .slice none 0 0], .slice none 0 0] w (HNewQ w [] 0 0 [] [] (memL 0 0 [] [] []))):=
  hnew_made [] ⟨#[]⟩ 0 0 (.slice none 0 0) (.slice none 0 0) (.slice none 0 0) [] _ rfl rfl (.inl ⟨rfl,none,0,rfl⟩) rfl [] 0 0 none (.inl ⟨rfl,rfl,rfl⟩) rfl rfl ⟨⟨fun _ h=>absurd h List.not_mem_nil,List.Pairwise.nil,by decide⟩,fun _ h=>absurd h List.not_mem_nil,fun _ h=>absurd h List.not_mem_nil,by decide⟩ [] (.inl ⟨rfl,none,0,rfl⟩) (by decide) (by decide) (by decide)
 have HC:Hid (∀W,Fr No w W→Calls prog 9 #[v] W fun e w'=>e= .returned (.string (bA' (codeM l)))∧Fr No W w'):=Lib.hid fun W hW=>code_any l v W (h.fr hW) (by omega)
 have hcl:(codeM l).length≤1000000:=by have:=codeM_len l;omega
 obtain ⟨r,k,t,hq,rfl,rfl⟩:=traceM_some ht
 have HR:Hid (∀(w0 wo:World) (N bw mb p:Nat) (L:List Reg),WM w0 N bw mb [] p L (startW []) wo→MachAt w0→Fr No w w0→Calls prog 8 #[.pointer (some ⟨bw,0,none⟩), .string (bA' (codeM l)), .int .i64 4, .slice (some ⟨wo.heap.size,0,none⟩) 1 1, .int .i64 20] (wo.alloc (.cells #[.int .u8 1] 5)) fun e w'=>∃ta tc,e= .returned (.tuple #[.agg #[.int .u64 r, .int .i64 k], .agg #[.slice ta t.tr.length tc, .int .i64 t.sq], .int .i64 0])∧Hid (U64At w' (.slice ta t.tr.length tc) t.tr (fun k=>w.heap.size≤k))∧Hid (Fr (Zof w0 N L) wo w')):=Lib.hid fun w0 wo N bw mb p L hw hm0 hf0=>by
  have fa:Fr No wo (wo.alloc (.cells #[.int .u8 1] 5)):=fr_alloc _ _
  have hz:(wo.alloc (.cells #[.int .u8 1] 5)).heap.size=wo.heap.size+1:=size_alloc _ _
  have hbo:=hw.bound
  refine (spec_any (hw.to fa) memL0_ok (fun _ h=>h) hm0 (codeM l) hcl 4 (by decide) [1] (by decide) _ (fun k=>k=wo.heap.size) (.inr ⟨wo.heap.size,0,1,rfl,CellsAt.new wo [.int .u8 1] _,rfl⟩) (fun k hk=>⟨by rw [hz];omega,fun hz2=>by have:=hz2.2.2;omega⟩) 20 (by decide) hkk).mono ?_
  rintro e w' ⟨a,k',tv,sq',er,he,_,hfr,hval⟩
  rcases hval.out with ⟨r2,n2,t2,h1,rfl,rfl,rfl,rfl,hrow,hown⟩|⟨h1,_⟩
  ·have e1:=Except.ok.inj (h1.symm.trans hq)
   obtain ⟨rfl,e2⟩:=Prod.mk.inj e1
   obtain ⟨rfl,rfl⟩:=Prod.mk.inj e2
   obtain ⟨ta,tc,rfl⟩:=ownsRow_form hrow
   have hu:=U64At.of_row hrow
   have hw0:=hf0.size
   have hwo:=hw.fr.size
   refine ⟨ta,tc,he,Lib.hid ?_,Lib.hid (fa.any.trans hfr.out)⟩
   rcases hu with hu|⟨g,off,cap,e,hc,hk⟩
   ·exact .inl hu
   ·exact .inr ⟨g,off,cap,e,hc,by have:=hown g hk;omega⟩
  ·have hq2:(specM [] (codeM l) ((4:Nat):Int) [1] 20 (startW [])).1= .ok (r,k,t):=hq
   rw [h1] at hq2;cases hq2
 have HM:=Lib.hid hm
 have HL:Hid (t.tr.length≤t.tr.length):=Lib.hid (Nat.le_refl _)
 clear hq h hl hcl hm ht hkk
 generalize codeM l=CB at*
 generalize htr:t.tr=TR at*
 generalize hsq:t.sq=SQ at*
 go_enter func12,ntmps12
 go_upto_region 2 with (go_at_call 10;(with_reducible refine HN.out.mono ?_);rintro e1 w1 ⟨bw,b,mb,A,H,T,mv,ov,dv,rfl,hw1,hf1⟩)
 have HF1:=Lib.hid hf1
 have HWM:Hid (WM w w1.heap.size bw mb [] 0 (ownL 0 0 [] []) (startW []) w1):=Lib.hid (WM.of hw1.out (⟨rfl,fun d hd=>absurd hd List.not_mem_nil⟩:HWok [] ⟨[],([]:List MapD).map Tab.new,memL 0 0 [] [] []⟩))
 clear hw1 hf1 HN
 go_upto_region 3 with (first
  |(go_at_call 9;(with_reducible refine (HC.out _ HF1.out).mono ?_);rintro e2 w2 ⟨rfl,hf2⟩;have HF2:=Lib.hid (HF1.out.trans hf2);replace HWM:=Lib.hid (HWM.out.to hf2);clear hf2)
  |(go_at_call 8;(with_reducible refine (HR.out _ _ _ _ _ _ _ HWM.out HM.out (Fr.refl No w)).mono ?_);rintro e3 w3 ⟨ta,tc,rfl,hu3,hf3⟩))
 have HT3:Hid (∀o t2,((w3.alloc o).alloc (.cells #[.slice ta TR.length tc, .int .i64 SQ] t2)).cell? ⟨w3.heap.size+1,0,none⟩=some (.slice ta TR.length tc)∧((w3.alloc o).alloc (.cells #[.slice ta TR.length tc, .int .i64 SQ] t2)).cell? ⟨w3.heap.size+1,1,none⟩=some (.int .i64 SQ)∧Fr No w3 ((w3.alloc o).alloc (.cells #[.slice ta TR.length tc, .int .i64 SQ] t2))):=Lib.hid fun o t2=>by
  rw [←size_alloc w3 o]
  have c:=CellsAt.new (w3.alloc o) [.slice ta TR.length tc, .int .i64 SQ] t2
  exact ⟨c 0 _ rfl,c 1 _ rfl,(fr_alloc _ _).trans (fr_alloc _ _)⟩
 refine wp_box (fun W=>Hid (W.cell? ⟨w3.heap.size+1,0,none⟩=some (.slice ta TR.length tc)∧W.cell? ⟨w3.heap.size+1,1,none⟩=some (.int .i64 SQ)∧Fr No w3 W)) (by exact Lib.hid (HT3.out _ _)) ?_
 clear HT3
 intro W4 H4
 have HF:Hid (Fr No w W4):=Lib.hid (((HF2.out.any.trans (hf3.out.mono fun k _ hk=>hk.1)).trans H4.out.2.2.any:Fr (From w) w W4).ours)
 have HU:=Lib.hid (hu3.out.fr H4.out.2.2 fun _ _=>id)
 have t0:=H4.out.1
 have t1:=H4.out.2.1
 clear H4 HF2 HWM hf3 hu3 HR HC HM HF1
 go_wp2_with fail
 go_quiet (fail)
 go_wp2_with fail
 go_ret2
 exact ⟨ta,tc,rfl,by first|exact HU|exact Lib.hid (HU.out.fr ((Fr.refl No W4).drewN _) fun _ _=>id),by first|exact HF.out|exact HF.out.drewN _⟩
theorem guessed_any(w:World)(hm:MachAt w):Calls prog 7 #[] w fun e w'=>e= .returned (.bool true)∧Fr No w w':=by
 obtain ⟨rA,rB,rC⟩:=guessed_true
 have HA:Hid (∀W:World,Fr No w W→Calls prog 12 #[.slice (some ⟨W.heap.size,0,none⟩) 2 2] (W.alloc (.cells #[.int .i64 15, .int .i64 0, .int .i64 0, .int .i64 0, .bool false, .bool true, .int .i64 0, .int .i64 0, .int .i32 0, .int .i32 0, .int .i64 0, .int .i64 19, .int .i64 0, .int .i64 0, .int .i64 0, .bool false, .bool false, .int .i64 0, .int .i64 0, .int .i32 0, .int .i32 0, .int .i64 0] 48)) fun e w'=>∃ta tc,e= .returned (.tuple #[.slice ta 3 tc, .int .i64 0])∧Hid (U64At w' (.slice ta 3 tc) [4194304,4194306,262264] (fun _=>True))∧Fr No W w'):=Lib.hid fun W hW=>by
  refine (trace_any exA _ _ (hm.fr (hW.trans (fr_alloc _ _))) (.inr ⟨_,0,_,rfl,CellsAt.new W [.int .i64 15, .int .i64 0, .int .i64 0, .int .i64 0, .bool false, .bool true, .int .i64 0, .int .i64 0, .int .i32 0, .int .i32 0, .int .i64 0, .int .i64 19, .int .i64 0, .int .i64 0, .int .i64 0, .bool false, .bool false, .int .i64 0, .int .i64 0, .int .i32 0, .int .i32 0, .int .i64 0] _⟩) (by decide) _ _ rA (kinds_of (by decide+kernel))).mono ?_
  rintro e w' ⟨ta,tc,he,hu,hf⟩
  exact ⟨ta,tc,he,Lib.hid (hu.out.imp id fun ⟨g,off,cap,e1,e2,_⟩=>⟨g,off,cap,e1,e2,trivial⟩),(fr_alloc _ _).trans hf⟩
 have HB:Hid (∀W:World,Fr No w W→Calls prog 12 #[.slice (some ⟨W.heap.size,0,none⟩) 3 3] (W.alloc (.cells #[.int .i64 16, .int .i64 0, .int .i64 2, .int .i64 0, .bool false, .bool true, .int .i64 0, .int .i64 0, .int .i32 0, .int .i32 7, .int .i64 0, .int .i64 2, .int .i64 0, .int .i64 0, .int .i64 0, .bool false, .bool false, .int .i64 0, .int .i64 0, .int .i32 0, .int .i32 0, .int .i64 1, .int .i64 19, .int .i64 0, .int .i64 0, .int .i64 0, .bool false, .bool false, .int .i64 0, .int .i64 0, .int .i32 0, .int .i32 0, .int .i64 0] 48)) fun e w'=>∃ta tc,e= .returned (.tuple #[.slice ta 5 tc, .int .i64 1])∧Hid (U64At w' (.slice ta 5 tc) [4194304,4194313,4194306,4194313,262264] (fun _=>True))∧Fr No W w'):=Lib.hid fun W hW=>by
  refine (trace_any exB _ _ (hm.fr (hW.trans (fr_alloc _ _))) (.inr ⟨_,0,_,rfl,CellsAt.new W [.int .i64 16, .int .i64 0, .int .i64 2, .int .i64 0, .bool false, .bool true, .int .i64 0, .int .i64 0, .int .i32 0, .int .i32 7, .int .i64 0, .int .i64 2, .int .i64 0, .int .i64 0, .int .i64 0, .bool false, .bool false, .int .i64 0, .int .i64 0, .int .i32 0, .int .i32 0, .int .i64 1, .int .i64 19, .int .i64 0, .int .i64 0, .int .i64 0, .bool false, .bool false, .int .i64 0, .int .i64 0, .int .i32 0, .int .i32 0, .int .i64 0] _⟩) (by decide) _ _ rB (kinds_of (by decide+kernel))).mono ?_
  rintro e w' ⟨ta,tc,he,hu,hf⟩
  exact ⟨ta,tc,he,Lib.hid (hu.out.imp id fun ⟨g,off,cap,e1,e2,_⟩=>⟨g,off,cap,e1,e2,trivial⟩),(fr_alloc _ _).trans hf⟩
 have HC:Hid (∀W:World,Fr No w W→Calls prog 12 #[.slice (some ⟨W.heap.size,0,none⟩) 4 4] (W.alloc (.cells #[.int .i64 14, .int .i64 0, .int .i64 0, .int .i64 3, .bool false, .bool false, .int .i64 4, .int .i64 4, .int .i32 (-8), .int .i32 0, .int .i64 0, .int .i64 13, .int .i64 0, .int .i64 0, .int .i64 3, .bool false, .bool false, .int .i64 0, .int .i64 4, .int .i32 (-8), .int .i32 0, .int .i64 0, .int .i64 13, .int .i64 0, .int .i64 0, .int .i64 3, .bool false, .bool false, .int .i64 0, .int .i64 0, .int .i32 0, .int .i32 0, .int .i64 0, .int .i64 19, .int .i64 0, .int .i64 0, .int .i64 0, .bool false, .bool false, .int .i64 0, .int .i64 0, .int .i32 0, .int .i32 0, .int .i64 0] 48)) fun e w'=>∃ta tc,e= .returned (.tuple #[.slice ta 10 tc, .int .i64 1])∧Hid (U64At w' (.slice ta 10 tc) [4194304,262256,4194312,262256,4194320,0,4194320,262264,4194327,262264] (fun _=>True))∧Fr No W w'):=Lib.hid fun W hW=>by
  refine (trace_any exC _ _ (hm.fr (hW.trans (fr_alloc _ _))) (.inr ⟨_,0,_,rfl,CellsAt.new W [.int .i64 14, .int .i64 0, .int .i64 0, .int .i64 3, .bool false, .bool false, .int .i64 4, .int .i64 4, .int .i32 (-8), .int .i32 0, .int .i64 0, .int .i64 13, .int .i64 0, .int .i64 0, .int .i64 3, .bool false, .bool false, .int .i64 0, .int .i64 4, .int .i32 (-8), .int .i32 0, .int .i64 0, .int .i64 13, .int .i64 0, .int .i64 0, .int .i64 3, .bool false, .bool false, .int .i64 0, .int .i64 0, .int .i32 0, .int .i32 0, .int .i64 0, .int .i64 19, .int .i64 0, .int .i64 0, .int .i64 0, .bool false, .bool false, .int .i64 0, .int .i64 0, .int .i32 0, .int .i32 0, .int .i64 0] _⟩) (by decide) _ _ rC (kinds_of (by decide+kernel))).mono ?_
  rintro e w' ⟨ta,tc,he,hu,hf⟩
  exact ⟨ta,tc,he,Lib.hid (hu.out.imp id fun ⟨g,off,cap,e1,e2,_⟩=>⟨g,off,cap,e1,e2,trivial⟩),(fr_alloc _ _).trans hf⟩
 have SA:Hid (∀(W:World) (ta:Option Addr) (tc:Nat),U64At W (.slice ta 3 tc) [4194304,4194306,262264] (fun _=>True)→Calls prog 11 #[.slice ta 3 tc, .slice (some ⟨W.heap.size,0,none⟩) 3 3] (W.alloc (.cells #[.int .u64 4194304, .int .u64 4194306, .int .u64 262264] 37)) fun e w'=>e= .returned (.bool true)∧Fr No W w'):=Lib.hid fun W ta tc hu=>by
  refine (samet_any _ _ [4194304,4194306,262264] [4194304,4194306,262264] _ (fun _=>True) _ (hu.fr (fr_alloc W _) fun _ _=>id) (.inr ⟨_,0,_,rfl,CellsAt.new W [.int .u64 4194304, .int .u64 4194306, .int .u64 262264] _,trivial⟩) (by decide) (by decide)).mono ?_
  rintro e w' ⟨he,hf⟩
  exact ⟨he.trans (by rw [decide_eq_true rfl]),(fr_alloc _ _).trans hf⟩
 have SB:Hid (∀(W:World) (ta:Option Addr) (tc:Nat),U64At W (.slice ta 5 tc) [4194304,4194313,4194306,4194313,262264] (fun _=>True)→Calls prog 11 #[.slice ta 5 tc, .slice (some ⟨W.heap.size,0,none⟩) 5 5] (W.alloc (.cells #[.int .u64 4194304, .int .u64 4194313, .int .u64 4194306, .int .u64 4194313, .int .u64 262264] 37)) fun e w'=>e= .returned (.bool true)∧Fr No W w'):=Lib.hid fun W ta tc hu=>by
  refine (samet_any _ _ [4194304,4194313,4194306,4194313,262264] [4194304,4194313,4194306,4194313,262264] _ (fun _=>True) _ (hu.fr (fr_alloc W _) fun _ _=>id) (.inr ⟨_,0,_,rfl,CellsAt.new W [.int .u64 4194304, .int .u64 4194313, .int .u64 4194306, .int .u64 4194313, .int .u64 262264] _,trivial⟩) (by decide) (by decide)).mono ?_
  rintro e w' ⟨he,hf⟩
  exact ⟨he.trans (by rw [decide_eq_true rfl]),(fr_alloc _ _).trans hf⟩
 have SC:Hid (∀(W:World) (ta:Option Addr) (tc:Nat),U64At W (.slice ta 10 tc) [4194304,262256,4194312,262256,4194320,0,4194320,262264,4194327,262264] (fun _=>True)→Calls prog 11 #[.slice ta 10 tc, .slice (some ⟨W.heap.size,0,none⟩) 10 10] (W.alloc (.cells #[.int .u64 4194304, .int .u64 262256, .int .u64 4194312, .int .u64 262256, .int .u64 4194320, .int .u64 0, .int .u64 4194320, .int .u64 262264, .int .u64 4194327, .int .u64 262264] 37)) fun e w'=>e= .returned (.bool true)∧Fr No W w'):=Lib.hid fun W ta tc hu=>by
  refine (samet_any _ _ [4194304,262256,4194312,262256,4194320,0,4194320,262264,4194327,262264] [4194304,262256,4194312,262256,4194320,0,4194320,262264,4194327,262264] _ (fun _=>True) _ (hu.fr (fr_alloc W _) fun _ _=>id) (.inr ⟨_,0,_,rfl,CellsAt.new W [.int .u64 4194304, .int .u64 262256, .int .u64 4194312, .int .u64 262256, .int .u64 4194320, .int .u64 0, .int .u64 4194320, .int .u64 262264, .int .u64 4194327, .int .u64 262264] _,trivial⟩) (by decide) (by decide)).mono ?_
  rintro e w' ⟨he,hf⟩
  exact ⟨he.trans (by rw [decide_eq_true rfl]),(fr_alloc _ _).trans hf⟩
 have HE:Hid (∀t,Fr No w (w.alloc (.cells (XI.cells ⟨19,0,0,0,false,false,0,0,0,0,0⟩).toArray t))∧XB (w.alloc (.cells (XI.cells ⟨19,0,0,0,false,false,0,0,0,0,0⟩).toArray t)) w.heap.size ⟨19,0,0,0,false,false,0,0,0,0,0⟩):=fun t=>⟨fr_alloc _ _,XB.new w _ t⟩
 clear rA rB rC hm
 go_enter func7,ntmps7
 go_upto_region 2 with fail
 refine wp_box (fun W=>Hid (Fr No w W∧XB W w.heap.size ⟨19,0,0,0,false,false,0,0,0,0,0⟩)) (by exact Lib.hid (HE.out _)) ?_
 clear HE
 intro W1 HL
 obtain ⟨c0,c1,c2,c3,c4,c5,c6,c7,c8,c9,c10⟩:=XI.at HL.out.2.cells
 go_upto_region 3 with (go_at_call 12;(with_reducible refine (HA.out _ HL.out.1).mono ?_);rintro e2 w2 ⟨ta,tc,rfl,HU2,hf2⟩)
 have HL2:=Lib.hid (And.intro (HL.out.1.trans hf2) (HL.out.2.fr hf2 id))
 clear HL hf2 HA c0 c1 c2 c3 c4 c5 c6 c7 c8 c9 c10
 obtain ⟨c0,c1,c2,c3,c4,c5,c6,c7,c8,c9,c10⟩:=XI.at HL2.out.2.cells
 go_upto_region 4 with (go_at_call 12;(with_reducible refine (HB.out _ HL2.out.1).mono ?_);rintro e3 w3 ⟨tb,td,rfl,HU3,hf3⟩)
 have HL3:=Lib.hid (And.intro (HL2.out.1.trans hf3) (HL2.out.2.fr hf3 id))
 replace HU2:=Lib.hid (HU2.out.fr hf3 fun _ _=>id)
 clear HL2 hf3 HB c0 c1 c2 c3 c4 c5 c6 c7 c8 c9 c10
 obtain ⟨c0,c1,c2,c3,c4,c5,c6,c7,c8,c9,c10⟩:=XI.at HL3.out.2.cells
 go_upto_region 5 with (go_at_call 12;(with_reducible refine (HC.out _ HL3.out.1).mono ?_);rintro e4 w4 ⟨te,tf,rfl,HU4,hf4⟩)
 have HL4:=Lib.hid (HL3.out.1.trans hf4)
 replace HU2:=Lib.hid (HU2.out.fr hf4 fun _ _=>id)
 replace HU3:=Lib.hid (HU3.out.fr hf4 fun _ _=>id)
 clear HL3 hf4 HC c0 c1 c2 c3 c4 c5 c6 c7 c8 c9 c10
 go_wp2_with (first
  |(go_at_call 11;(with_reducible refine (SA.out _ ta tc HU2.out).mono ?_);rintro e5 w5 ⟨rfl,hf5⟩;replace HU3:=Lib.hid (HU3.out.fr hf5 fun _ _=>id);replace HU4:=Lib.hid (HU4.out.fr hf5 fun _ _=>id);replace HL4:=Lib.hid (HL4.out.trans hf5))
  |(go_at_call 11;(with_reducible refine (SB.out _ tb td HU3.out).mono ?_);rintro e6 w6 ⟨rfl,hf6⟩;replace HU4:=Lib.hid (HU4.out.fr hf6 fun _ _=>id);replace HL4:=Lib.hid (HL4.out.trans hf6))
  |(go_at_call 11;(with_reducible refine (SC.out _ te tf HU4.out).mono ?_);rintro e7 w7 ⟨rfl,hf7⟩;replace HL4:=Lib.hid (HL4.out.trans hf7)))
 go_ret
 exact ⟨rfl,HL4.out⟩
theorem neq_zO(W:World):(binOp .neq 39 (.agg #[.int .u64 0, .int .i64 0]) (.agg #[.int .u64 0, .int .i64 0])).run prog W= .ok (.bool false) W:=by kernel_rfl
theorem idxN0(p:Option Addr)(W:World):(Instr.index 36 (.agg #[.pointer none, .pointer p]) (.int .i64 0)).run prog W= .ok (.pointer none) W:=by kernel_rfl
theorem idxN1(p:Option Addr)(W:World):(Instr.index 36 (.agg #[.pointer none, .pointer p]) (.int .i64 1)).run prog W= .ok (.pointer p) W:=by kernel_rfl
structure NB(w0:World)(bo bs:Nat)(bl:List Nat)(w:World):Prop where
 fr:Fr No w0 w
 lo:w0.heap.size≤bo
 out:CellsAt w bo 0 [.int .u64 0, .int .i64 0]
 st:SAt w bs ST.zero
 ne:bo<bs
 more:∀b∈bl,SAt w b ST.zero∧bs<b
theorem NB.no{w0 w w':World}{bo bs:Nat}{bl:List Nat}(h:NB w0 bo bs bl w)(hf:Fr No w w'):NB w0 bo bs bl w':=⟨h.fr.trans hf,h.lo,hf.cells h.out id,h.st.fr hf id,h.ne,fun b hb=>⟨(h.more b hb).1.fr hf id,(h.more b hb).2⟩⟩
theorem NB.next{w0 w w':World}{bo bs:Nat}{bl:List Nat}(h:NB w0 bo bs bl w)(o:Obj)(hs:SAt w' w.heap.size ST.zero)(hf:Fr (fun k=>k=w.heap.size) (w.alloc o) w'):NB w0 bo bs (w.heap.size::bl) w':=by
 have ho:bo<w.heap.size:=World.block_lt_of_cell? w _ (h.out 0 _ rfl)
 have hl:=h.st.lt
 have f1:Fr No w (w.alloc o):=fr_alloc _ _
 have f2:Fr (fun k=>k=w.heap.size) w w':=(f1.mono fun _ _ q=>absurd q id).trans hf
 refine ⟨(h.fr.any.trans (f2.mono fun k _ hk=>by have:=h.fr.size;show w0.heap.size≤k;omega):Fr (From w0) w0 w').ours,h.lo,f2.cells h.out (show¬bo=w.heap.size by omega),h.st.fr f2 (show¬bs=w.heap.size by omega),h.ne,fun b hb=> ?_⟩
 rcases List.mem_cons.1 hb with rfl|hb
 ·exact ⟨hs,hl⟩
 ·have:=(h.more b hb).1.lt
  exact ⟨(h.more b hb).1.fr f2 (show¬b=w.heap.size by omega),(h.more b hb).2⟩
end Go.Proofs.YtfmcmfiebehhiaaGreatDoor
namespace Go.Proofs.YtfmcmfiebehhiaaGreatDoor
open Go.Proofs.Tryz
open Go.ChangeShapes Go.WideShapes Go.ChangeAt Go.WideMaps Go.WideElems Go.RowKit
end Go.Proofs.YtfmcmfiebehhiaaGreatDoor

