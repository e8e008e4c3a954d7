/- package codec, plain: Decode. firewallref11.Decode, plain: it decodes the same. firewallref11.Decode, plain: the law. Regions of bytes: what a memory is, without the program; and how it stands in a .. -/
import Derived.Test.YtjcgmhlbkheadaaGreatDoorCore2
import Derived.Test.YtjcgmhlbkheadaaGreatDoorCore1
set_option linter.all false
set_option linter.unusedVariables false
set_option linter.unusedSimpArgs false
set_option maxHeartbeats 1000000
namespace Go.Proofs.YtjcgmhlbkheadaaGreatDoor
open Go.RowKit
theorem sign8(v:Nat): -128≤signI v 8∧signI v 8≤127:=by
 unfold signI
 simp only [show (2:Nat)^8=256 from rfl,show (2:Nat)^(8-1)=128 from rfl,show (2:Int)^8=256 from rfl]
 split<;>omega
theorem sign32(v:Nat): -2147483648≤signI v 32∧signI v 32≤2147483647:=by
 unfold signI
 simp only [show (2:Nat)^32=4294967296 from rfl,show (2:Nat)^(32-1)=2147483648 from rfl,show (2:Int)^32=4294967296 from rfl]
 split<;>omega
theorem sign64(v:Nat): -9223372036854775808≤signI v 64∧signI v 64≤9223372036854775807:=by
 unfold signI
 simp only [show (2:Nat)^64=18446744073709551616 from rfl,show (2:Nat)^(64-1)=9223372036854775808 from rfl,show (2:Int)^64=18446744073709551616 from rfl]
 split<;>omega
theorem ite_ok2{b:Prop}[Decidable b]{x y:XI×List UInt8}(hx:x.1.ok)(hy:y.1.ok):(if b then x else y).1.ok:=by split<;>assumption
theorem size_ok(a b:Nat)(t h w:Bool):1≤sizeOfM a b t h w∧sizeOfM a b t h w≤8:=by unfold sizeOfM;split<;>(try split)<;>(try split)<;>omega
theorem take_lt(s:List UInt8)(n:Nat)(hn:n≤8):takeN s n<18446744073709551616:=by
 unfold takeN
 have h1:=leNum_lt (s.take n)
 have h2:(s.take n).length≤8:=by rw [List.length_take];omega
 exact Nat.lt_of_lt_of_le h1 (Nat.le_trans (Nat.pow_le_pow_right (by decide) h2) (by decide))
theorem take1_lt(s:List UInt8):takeN s 1<256:=by
 unfold takeN
 have h1:=leNum_lt (s.take 1)
 have h2:(s.take 1).length≤1:=by rw [List.length_take];omega
 exact Nat.lt_of_lt_of_le h1 (Nat.le_trans (Nat.pow_le_pow_right (by decide) h2) (by decide))
theorem guess_ok{c:Cut}{k:Nat}(hk:k<22)(hh:c.high<256)(ho:c.op<256):(guessC c k).ok:=by
 have hX:∀(x:XI),x.ok→∀v:Int, -9223372036854775808≤v∧v≤9223372036854775807→({x with imm:=v}:XI).ok:=fun x hx v hv=>⟨hx.kind,hx.alu,hx.cond,hx.size,hx.dst,hx.src,hx.disp,hx.rel,hv⟩
 have hs:∀(v n:Nat),n=1∨n=4∨n=8→-9223372036854775808≤signI v (8*n)∧signI v (8*n)≤9223372036854775807:=fun v n hn=>by
  rcases hn with rfl|rfl|rfl
  ·have h:=sign8 v
   show-9223372036854775808≤signI v 8∧signI v 8≤9223372036854775807
   omega
  ·have h:=sign32 v
   show-9223372036854775808≤signI v 32∧signI v 32≤9223372036854775807
   omega
  ·exact sign64 v
 have hf:∀k:Nat,k<22→0<(formsL.getD k FI.none).imm→(formsL.getD k FI.none).imm=1∨(formsL.getD k FI.none).imm=4∨(formsL.getD k FI.none).imm=8:=by decide+kernel
 unfold guessC
 by_cases h21:k=21
 ·rw [if_pos h21]
  constructor<;>simp [XI.zero]
 ·simp only
  rw [if_neg h21]
  have hc:(if k=16 then ((c.op%16:Nat):Int) else 0)≤15∧0≤(if k=16 then ((c.op%16:Nat):Int) else 0):=by split<;>omega
  have ha:(if k=4 then ((c.op/8:Nat):Int) else 0)≤31∧0≤(if k=4 then ((c.op/8:Nat):Int) else 0):=by split<;>omega
  have hrel:∀(s:List UInt8) (b:Bool), -2147483648≤signI (takeN s (if b=true then 1 else 4)) (8*(if b=true then 1 else 4))∧signI (takeN s (if b=true then 1 else 4)) (8*(if b=true then 1 else 4))≤2147483647:=fun s b=>by
   cases b
   ·exact sign32 _
   ·have h:=sign8 (takeN s 1)
    show-2147483648≤signI (takeN s 1) 8∧signI (takeN s 1) 8≤2147483647
    omega
  have hm:=take1_lt c.rest
  generalize (if k=16 then ((c.op%16:Nat):Int) else 0)=cd at*
  generalize (if k=4 then ((c.op/8:Nat):Int) else 0)=al at*
  have base:∀(xr:XI×List UInt8),xr.1.ok→(if 0<(formsL.getD k FI.none).imm then {xr.1 with imm:=signI (takeN xr.2 (formsL.getD k FI.none).imm) (8*(formsL.getD k FI.none).imm)} else xr.1).ok:=fun xr hx=>by
   split
   ·rename_i h0
    exact hX _ hx _ (hs _ _ (hf k hk h0))
   ·exact hx
  refine base _ ?_
  refine ite_ok2 ?_ (ite_ok2 ?_ (ite_ok2 ?_ ?_))
  ·constructor<;>simp [XI.zero]<;>omega
  ·have:=hrel c.rest (if k=16 then !c.two else if k=15 then decide (c.op=235) else false)
   constructor<;>simp [XI.zero] at* <;>omega
  ·constructor<;>simp [XI.zero]<;>omega
  ·generalize takeN c.rest 1=m at*
   have hx1:∀x0:XI,x0.ok→(if (formsL.getD k FI.none).behind=3∧(formsL.getD k FI.none).alu≠0 then {x0 with alu:=(((c.high/4%2*8+m/8%8)%8:Nat):Int)} else x0:XI).ok:=fun x0 h0=>by
    split
    ·exact ⟨h0.kind,by simp only;omega,h0.cond,h0.size,h0.dst,h0.src,h0.disp,h0.rel,h0.imm⟩
    ·exact h0
   have hb:=hx1 {XI.zero with kind:=(k:Int),wide:=decide (c.high/8%2=1),short:=if k=16 then !c.two else if k=15 then decide (c.op=235) else false,cond:=cd,alu:=al} (by constructor<;>simp [XI.zero]<;>omega)
   refine ite_ok2 ?_ (ite_ok2 ?_ (ite_ok2 ?_ ?_))
   ·exact ⟨hb.kind,hb.alu,hb.cond,hb.size,by simp only;omega,by simp only;omega,hb.disp,hb.rel,hb.imm⟩
   ·exact ⟨hb.kind,hb.alu,hb.cond,hb.size,by simp only;omega,by simp only;omega,hb.disp,hb.rel,hb.imm⟩
   ·exact ⟨hb.kind,hb.alu,hb.cond,hb.size,by simp only;omega,hb.src,hb.disp,hb.rel,hb.imm⟩
   ·have hz:=size_ok (formsL.getD k FI.none).behind c.op c.two c.half (decide (c.high/8%2=1))
    exact ⟨hb.kind,hb.alu,hb.cond,by simp only;omega,by simp only;split<;>omega,by simp only;split<;>omega,sign32 _,hb.rel,hb.imm⟩
theorem cut_lt(s:List UInt8):(cutM0 s).high<256∧(cutM0 s).op<256:=by
 unfold cutM0
 simp only
 refine ⟨?_,take1_lt _⟩
 have key:∀(b:Bool) (s:List UInt8),(if b=true then takeN s 1 else 0)<256:=fun b s=>by
  split
  ·exact take1_lt _
  ·omega
 exact key _ _
theorem guessM_ok(s:List UInt8){k:Nat}(hk:k<22):(guessM s k).ok:=guess_ok hk (cut_lt s).1 (cut_lt s).2
theorem decodeFrom_some{y:XI}(hy:y.ok){t s:List UInt8}(ht:encodeM y=some t)(pt:t<+:s):∀ks:List Nat,(∀k∈ks,k<22)→y.kind.toNat∈ks→decodeFrom s ks=some (y,t.length)
 | [],_,h=>absurd h (by simp)
 |k::ks,hks,h=>by
  have ih:=decodeFrom_some hy ht pt ks (fun j hj=>hks j (List.mem_cons_of_mem _ hj))
  have hg:=guessM_ok s (hks k List.mem_cons_self)
  rw [decodeFrom]
  by_cases hp:∃b,encodeM (guessM s k)=some b∧b<+:s
  ·obtain ⟨b,h1,h2⟩:=hp
   have e:=enc_unique hg hy h1 ht h2 pt
   rw [e] at h1
   rw [ht] at h1
   obtain rfl:=Option.some.inj h1
   rw [e,ht]
   simp only
   rw [if_pos (List.isPrefixOf_iff_prefix.2 pt)]
  ·have hne:y.kind.toNat∈ks:=by
    rcases List.mem_cons.1 h with h|h
    ·exfalso
     refine hp ⟨t,?_,pt⟩
     rw [←h,enc_guess hy ht pt]
     exact ht
    ·exact h
   cases hb:encodeM (guessM s k) with
   |none=>exact ih hne
   |some b=>
    simp only
    rw [if_neg (fun h=>hp ⟨b,hb,List.isPrefixOf_iff_prefix.1 h⟩)]
    exact ih hne
theorem decodeFrom_is{s:List UInt8}{y:XI}{n:Nat}:∀ks:List Nat,(∀k∈ks,k<22)→decodeFrom s ks=some (y,n)→y.ok∧∃t,encodeM y=some t∧t<+:s∧n=t.length
 | [],_,h=>by simp [decodeFrom] at h
 |k::ks,hks,h=>by
  have ih:=decodeFrom_is (s:=s) (y:=y) (n:=n) ks (fun j hj=>hks j (List.mem_cons_of_mem _ hj))
  rw [decodeFrom] at h
  cases hb:encodeM (guessM s k) with
  |none=>rw [hb] at h;exact ih h
  |some b=>
   rw [hb] at h
   simp only at h
   split at h
   ·rename_i hp
    simp only [Option.some.injEq,Prod.mk.injEq] at h
    obtain ⟨rfl,rfl⟩:=h
    exact ⟨guessM_ok s (hks k List.mem_cons_self),b,hb,List.isPrefixOf_iff_prefix.1 hp,rfl⟩
   ·exact ih h
theorem kinds_lt:∀k∈kindsL,k<22:=by decide
theorem valid_kind{y:XI}(h:validM y=true):y.kind.toNat∈kindsL:=by
 obtain ⟨k,h1,h2,h3, -⟩:=valid_may h
 rw [h3,Int.toNat_natCast]
 have:∀k:Nat,k<22→1≤k→k∈kindsL:=by decide
 exact this k h2 h1
theorem decode_some{y:XI}(hy:y.ok){t s:List UInt8}(ht:encodeM y=some t)(pt:t<+:s):decodeM s=some (y,t.length):=
 decodeFrom_some hy ht pt kindsL kinds_lt (valid_kind (enc_valid ht))
theorem decode_is{s:List UInt8}{y:XI}{n:Nat}(h:decodeM s=some (y,n)):y.ok∧∃t,encodeM y=some t∧t<+:s∧n=t.length:=decodeFrom_is kindsL kinds_lt h
theorem decode_append{y:XI}(hy:y.ok){t:List UInt8}(ht:encodeM y=some t)(r:List UInt8):decodeM (t++r)=some (y,t.length):=decode_some hy ht (List.prefix_append _ _)
theorem sign8'(v:Nat): -2147483648≤signI v 8∧signI v 8≤2147483647:=by have:=sign8 v;omega
theorem sign8''(v:Nat): -9223372036854775808≤signI v 8∧signI v 8≤9223372036854775807:=by have:=sign8 v;omega
theorem sign32'(v:Nat): -9223372036854775808≤signI v 32∧signI v 32≤9223372036854775807:=by have:=sign32 v;omega
structure Reg where
 base:Int
 data:List UInt8
 free:Bool
def Reg.len(r:Reg):Int:=r.data.length
def Reg.has(r:Reg)(addr n:Int):Bool:=decide (r.base≤addr∧addr+n≤r.base+r.len)
theorem Reg.has_iff(r:Reg)(addr n:Int):r.has addr n=true↔r.base≤addr∧addr+n≤r.base+(r.data.length:Int):=decide_eq_true_iff
def spot(m:List Reg)(addr n:Int):Option Nat:=m.findIdx? (·.has addr n)
structure Reg.ok(r:Reg):Prop where
 low:0≤r.base
 some:0<r.data.length
 high:r.base+r.len≤18446744073709551615
 small:r.data.length≤9223372036854775807
structure WF(m:List Reg):Prop where
 ok:∀r∈m,r.ok
 apart:m.Pairwise fun a b=>a.base+a.len≤b.base
 many:m.length≤4611686018427387904
def cnt(m:List Reg)(addr:Int):Nat:=m.countP fun r=>decide (r.base≤addr)
theorem WF.tail{r:Reg}{m:List Reg}(h:WF (r::m)):WF m:=⟨fun x hx=>h.ok x (List.mem_cons_of_mem _ hx),(List.pairwise_cons.1 h.apart).2,by have:=h.many;simp at this;omega⟩
theorem WF.later{r:Reg}{m:List Reg}(h:WF (r::m)):∀b∈m,r.base+r.len≤b.base:=(List.pairwise_cons.1 h.apart).1
theorem len_pos{r:Reg}(h:r.ok):0<r.len:=by have:=h.some;unfold Reg.len;omega
theorem cnt_zero_of_below{m:List Reg}{addr:Int}(h:∀b∈m,addr<b.base):cnt m addr=0:=by
 unfold cnt
 rw [List.countP_eq_zero]
 intro b hb
 have:=h b hb
 simp;omega
theorem cnt_spec{m:List Reg}(h:WF m)(addr:Int):∀i (hi:i<m.length),(m[i].base≤addr↔i<cnt m addr):=by
 induction m with
 |nil=>intro i hi;simp at hi
 |cons r m ih=>
  have hp:=len_pos (h.ok r (by simp))
  intro i hi
  by_cases hr:r.base≤addr
  ·have hc:cnt (r::m) addr=cnt m addr+1:=by simp [cnt,List.countP_cons,hr]
   rw [hc]
   cases i with
   |zero=>simpa using hr
   |succ i=>simpa using ih h.tail i (by simpa using hi)
  ·have hz:cnt (r::m) addr=0:=cnt_zero_of_below (fun b hb=>by
    rcases List.mem_cons.1 hb with rfl|hb
    ·omega
    ·have:=h.later b hb;omega)
   rw [hz]
   cases i with
   |zero=>simpa using hr
   |succ i=>
    have:=h.later (m[i]'(by simpa using hi)) (List.getElem_mem _)
    simp;omega
theorem cnt_le(m:List Reg)(addr:Int):cnt m addr≤m.length:=List.countP_le_length
theorem spot_eq{m:List Reg}(h:WF m)(addr n:Int)(hn:1≤n):
  spot m addr n=if hc:0<cnt m addr then (if (m[cnt m addr-1]'(by have:=cnt_le m addr;omega)).has addr n then some (cnt m addr-1) else none) else none:=by
 have hs:=cnt_spec h addr
 have key:∀i (hi:i<m.length),m[i].has addr n=true→i+1=cnt m addr:=by
  intro i hi hh
  simp only [Reg.has,decide_eq_true_eq] at hh
  have h1:=(hs i hi).1 hh.1
  by_cases h2:i+1<cnt m addr
  ·have hi2:i+1<m.length:=by have:=cnt_le m addr;omega
   have h3:=(hs (i+1) hi2).2 h2
   have:=List.pairwise_iff_getElem.1 h.apart i (i+1) hi hi2 (by omega)
   omega
  ·omega
 split
 ·rename_i hc
  have hl:=cnt_le m addr
  split
  ·rename_i hh
   unfold spot
   rw [List.findIdx?_eq_some_iff_getElem]
   refine ⟨by omega,hh,fun j hj=> ?_⟩
   intro hj2
   have:=key j (by omega) hj2
   omega
  ·rename_i hh
   unfold spot
   rw [List.findIdx?_eq_none_iff]
   intro x hx
   obtain ⟨i,hi,rfl⟩:=List.getElem_of_mem hx
   cases hb:m[i].has addr n with
   |false=>rfl
   |true=>
    have:=key i hi hb
    have e:cnt m addr-1=i:=by omega
    exact absurd (by simp only [e];exact hb) hh
 ·rename_i hc
  unfold spot
  rw [List.findIdx?_eq_none_iff]
  intro x hx
  obtain ⟨i,hi,rfl⟩:=List.getElem_of_mem hx
  cases hb:m[i].has addr n with
  |false=>rfl
  |true=>have:=key i hi hb;omega
theorem spot_lt{m:List Reg}{addr n:Int}{i:Nat}(h:spot m addr n=some i):i<m.length:=
 (List.findIdx?_eq_some_iff_getElem.1 h).1
theorem spot_has{m:List Reg}{addr n:Int}{i:Nat}(h:spot m addr n=some i):(m[i]'(spot_lt h)).has addr n=true:=
 (List.findIdx?_eq_some_iff_getElem.1 h).2.1
def Reg.cut(r:Reg)(addr n:Int):List UInt8:=(r.data.drop (addr-r.base).toNat).take n.toNat
def mtext(m:List Reg)(addr n:Int):List UInt8×Int:=
 if n<0 then ([],2) else if n=0 then ([],0) else
 match spot m addr n with
 |none=>([],70)
 |some i=>(((m[i]?).map (·.cut addr n)).getD [],0)
def sizeOk(n:Int):Bool:=n==1||n==2||n==4||n==8
def mread(m:List Reg)(addr n:Int):Nat×Int:=
 if sizeOk n then (leNum (mtext m addr n).1,(mtext m addr n).2) else (0,2)
def Reg.put(r:Reg)(addr:Int)(bs:List UInt8):Reg:=
 {r with data:=r.data.take (addr-r.base).toNat++bs++r.data.drop ((addr-r.base).toNat+bs.length)}
def mput(m:List Reg)(addr:Int)(bs:List UInt8):List Reg:=
 match spot m addr bs.length with
 |none=>m
 |some i=>m.modify i (·.put addr bs)
def mwrite(m:List Reg)(addr n:Int)(v:Nat):List Reg×Int:=
 if sizeOk n then
  match spot m addr n with
  |none=>(m,70)
  |some i=>if ((m[i]?).map (·.free)).getD false then (mput m addr (leBytes n.toNat v),0) else (m,71)
 else (m,2)
structure Fr(S:Nat→Prop)(w w':World):Prop where
 os:w'.os=w.os
 tape:w'.tape=w.tape
 output:w'.output=w.output
 size:w.heap.size≤w'.heap.size
 block:∀k,k<w.heap.size→¬S k→w'.heap[k]? =w.heap[k]?
def No:Nat→Prop:=fun _=>False
theorem Fr.refl(S:Nat→Prop)(w:World):Fr S w w:=⟨rfl,rfl,rfl,Nat.le_refl _,fun _ _ _=>rfl⟩
theorem Fr.trans{S:Nat→Prop}{a b c:World}(h:Fr S a b)(k:Fr S b c):Fr S a c:=
 ⟨k.os.trans h.os,k.tape.trans h.tape,k.output.trans h.output,Nat.le_trans h.size k.size,fun i hi hs=>(k.block i (Nat.lt_of_lt_of_le hi h.size) hs).trans (h.block i hi hs)⟩
theorem Fr.mono{S T:Nat→Prop}{a b:World}(h:Fr S a b)(hst:∀k,k<a.heap.size→S k→T k):Fr T a b:=
 ⟨h.os,h.tape,h.output,h.size,fun i hi hs=>h.block i hi (fun hh=>hs (hst i hi hh))⟩
theorem Fr.of_below{S:Nat→Prop}{a b:World}(h:Below a.heap.size a b):Fr S a b:=⟨h.os,h.tape,h.output,h.size,fun i hi _=>h.block i hi⟩
theorem Fr.below{a b:World}(h:Fr No a b):Below a.heap.size a b:=⟨h.os,h.tape,h.output,h.size,fun i hi=>h.block i hi id⟩
theorem Fr.alloc{S:Nat→Prop}{a w:World}(h:Fr S a w)(o:Obj):Fr S a (w.alloc o):=
 h.trans ⟨rfl,rfl,rfl,by simp,fun k hk _=>Below.heap_alloc _ _ _ hk⟩
theorem Fr.drew{S:Nat→Prop}{a w:World}(h:Fr S a w):Fr S a w.drew:=⟨h.os,h.tape,h.output,h.size,h.block⟩
theorem Fr.drewN{S:Nat→Prop}{a w:World}(h:Fr S a w)(n:Nat):Fr S a (w.drewN n):=⟨h.os,h.tape,h.output,h.size,h.block⟩
theorem Fr.setCell{S:Nat→Prop}{a w:World}(h:Fr S a w){p:Addr}(hp:a.heap.size≤p.block∨S p.block)(u:Value):Fr S a (w.setCell p u):=
 ⟨h.os,h.tape,h.output,by simpa using h.size,fun k hk hs=>by
  rw [Below.heap_setCell _ _ _ _ (by rintro rfl;rcases hp with hp|hp<;>first|omega|exact hs hp)]
  exact h.block k hk hs⟩
theorem Fr.cell{S:Nat→Prop}{w w':World}(h:Fr S w w'){a:Addr}{v:Value}(hc:w.cell? a=some v)(hs:¬S a.block):w'.cell? a=some v:=by
 rw [World.cell?_of_block (w:=w) (h.block a.block (World.block_lt_of_cell? w a hc) hs)];exact hc
theorem Fr.frozen{S:Nat→Prop}{w w':World}(h:Fr S w w'){a:Addr}{v:Value}(hc:w.cell? a=some v)(hs:¬S a.block):w'.frozen? a=w.frozen? a:=
 World.frozen?_of_block (w:=w) (h.block a.block (World.block_lt_of_cell? w a hc) hs)
theorem Fr.cells{S:Nat→Prop}{w w':World}(h:Fr S w w'){b off:Nat}{vs:List Value}(hc:CellsAt w b off vs)(hs:¬S b):CellsAt w' b off vs:=
 fun j v hj=>h.cell (hc j v hj) hs
def Open(w:World)(b off n:Nat):Prop:=∀j,j<n→w.frozen? ⟨b,off+j,none⟩=false
theorem Fr.opened{S:Nat→Prop}{w w':World}(h:Fr S w w'){b off n:Nat}(hb:b<w.heap.size)(hc:Open w b off n)(hs:¬S b):Open w' b off n:=
 fun j hj=>by rw [World.frozen?_of_block (w:=w) (h.block b hb hs)];exact hc j hj
structure HReg where
 r:Reg
 g:Nat
 cap:Nat
instance:Inhabited HReg:=⟨⟨⟨0, [],false⟩,0,0⟩⟩
def HReg.cells(x:HReg):List Value:= [.int .u64 x.r.base, .slice (some ⟨x.g,0,none⟩) x.r.data.length x.cap, .bool x.r.free]
def flat(l:List HReg):List Value:=l.flatMap HReg.cells
theorem flat_length(l:List HReg):(flat l).length=l.length*3:=by
 induction l with
 |nil=>rfl
 |cons x l ih=>simp only [flat,List.flatMap_cons,List.length_append,HReg.cells,List.length_cons,List.length_nil] at*;omega
theorem flat_get(l:List HReg)(i c:Nat)(hi:i<l.length)(hc:c<3):(flat l)[i*3+c]? =some (l[i].cells[c]'(by simpa [HReg.cells] using hc)):=by
 induction l generalizing i with
 |nil=>simp at hi
 |cons x l ih=>
  simp only [flat,List.flatMap_cons]
  cases i with
  |zero=>
   rw [List.getElem?_append_left (by simp [HReg.cells];omega)]
   simp only [Nat.zero_mul,Nat.zero_add,List.getElem_cons_zero]
   exact List.getElem?_eq_getElem _
  |succ i=>
   rw [List.getElem?_append_right (by simp [HReg.cells];omega)]
   have:=ih i (by simpa using hi)
   simp only [flat] at this
   rw [show (i+1)*3+c-x.cells.length=i*3+c by simp [HReg.cells];omega,this]
   simp
structure HReg.here(w:World)(x:HReg):Prop where
 bytes:CellsAt w x.g 0 (u8s x.r.data)
 opened:Open w x.g 0 x.r.data.length
 cap:x.r.data.length≤x.cap
def ListAt(w:World)(v:Value)(l:List HReg):Prop:=
 (l= []∧v= .slice none 0 0)∨∃bl cap,v= .slice (some ⟨bl,0,none⟩) l.length cap∧bl<w.heap.size∧CellsAt w bl 0 (flat l)∧Open w bl 0 (l.length*3)∧∀x∈l,x.g≠bl
structure MemL(w:World)(b:Nat)(v:Value)(l:List HReg)(S:Nat→Prop):Prop where
 wf:WF (l.map (·.r))
 made:w.cell? ⟨b,0,none⟩=some (.bool true)
 cell:w.cell? ⟨b,1,none⟩=some v
 list:ListAt w v l
 here:∀x∈l,x.here w
 ne:∀x∈l,x.g≠b
 inS:∀x∈l,S x.g
 nodup:(l.map (·.g)).Nodup
 vne:v.ownBlock≠some b
 vS:∀k,v.ownBlock=some k→S k
 own:S b
def MemAt(w:World)(b:Nat)(m:List Reg)(S:Nat→Prop):Prop:=∃v l,l.map (·.r)=m∧MemL w b v l S
theorem HReg.here.fr{S:Nat→Prop}{w w':World}{x:HReg}(h:x.here w)(hf:Fr S w w')(hn:¬S x.g)(hp:0<x.r.data.length):x.here w':=by
 have hb:x.g<w.heap.size:=World.block_lt_of_cell? w ⟨x.g,0+0,none⟩ (h.bytes 0 _ (List.getElem?_eq_getElem (by simpa using hp)))
 exact ⟨hf.cells h.bytes hn,hf.opened hb h.opened hn,h.cap⟩
theorem ListAt.fr{S:Nat→Prop}{w w':World}{v:Value}{l:List HReg}(h:ListAt w v l)(hf:Fr S w w')(hn:∀k,v.ownBlock=some k→¬S k):ListAt w' v l:=by
 rcases h with h|⟨bl,cap,rfl,hlt,hc,ho,hne⟩
 ·exact .inl h
 ·have:=hn bl rfl
  exact .inr ⟨bl,cap,rfl,by have:=hf.size;omega,hf.cells hc this,hf.opened hlt ho this,hne⟩
theorem MemL.fr{S T:Nat→Prop}{w w':World}{b:Nat}{v:Value}{l:List HReg}(h:MemL w b v l S)(hf:Fr T w w')(hn:∀k,S k→¬T k):MemL w' b v l S where
 wf:=h.wf
 made:=hf.cell h.made (hn _ h.own)
 cell:=hf.cell h.cell (hn _ h.own)
 list:=h.list.fr hf fun k hk=>hn k (h.vS k hk)
 here:=fun x hx=>(h.here x hx).fr hf (hn _ (h.inS x hx)) (h.wf.ok x.r (List.mem_map_of_mem hx)).some
 ne:=h.ne
 inS:=h.inS
 nodup:=h.nodup
 vne:=h.vne
 vS:=h.vS
 own:=h.own
theorem MemAt.fr{S T:Nat→Prop}{w w':World}{b:Nat}{m:List Reg}(h:MemAt w b m S)(hf:Fr T w w')(hn:∀k,S k→¬T k):MemAt w' b m S:=by
 obtain ⟨v,l,e,h⟩:=h
 exact ⟨v,l,e,h.fr hf hn⟩
theorem MemL.wide{S T:Nat→Prop}{w:World}{b:Nat}{v:Value}{l:List HReg}(h:MemL w b v l S)(hn:∀k,S k→T k):MemL w b v l T:=
 ⟨h.wf,h.made,h.cell,h.list,h.here,h.ne,fun x hx=>hn _ (h.inS x hx),h.nodup,h.vne,fun k hk=>hn _ (h.vS k hk),hn _ h.own⟩
theorem MemL.lt{S:Nat→Prop}{w:World}{b:Nat}{v:Value}{l:List HReg}(h:MemL w b v l S):b<w.heap.size:=World.block_lt_of_cell? w _ h.made
theorem ListAt.reg{w:World}{v:Value}{l:List HReg}(h:ListAt w v l)(i:Nat)(hi:i<l.length):
  ∃bl cap,v= .slice (some ⟨bl,0,none⟩) l.length cap∧bl<w.heap.size∧w.cell? ⟨bl,i*3,none⟩=some (.int .u64 l[i].r.base)∧
   w.cell? ⟨bl,i*3+1,none⟩=some (.slice (some ⟨l[i].g,0,none⟩) l[i].r.data.length l[i].cap)∧w.cell? ⟨bl,i*3+2,none⟩=some (.bool l[i].r.free):=by
 rcases h with ⟨rfl,_⟩|⟨bl,cap,rfl,hlt,hc,ho,hne⟩
 ·simp at hi
 ·refine ⟨bl,cap,rfl,hlt,?_,?_,?_⟩
  ·have:=hc (i*3+0) _ (flat_get l i 0 hi (by omega))
   simpa [HReg.cells] using this
  ·have:=hc (i*3+1) _ (flat_get l i 1 hi (by omega))
   simpa [HReg.cells] using this
  ·have:=hc (i*3+2) _ (flat_get l i 2 hi (by omega))
   simpa [HReg.cells] using this
theorem Fr.setCells{S:Nat→Prop}{a w:World}(h:Fr S a w){b:Nat}(hp:a.heap.size≤b∨S b)(o:Nat)(vs:List Value):Fr S a (w.setCells b o vs):=by
 obtain ⟨h1,h2,h3⟩:=rest_setCells b vs o w
 refine ⟨h1.trans h.os,h2.trans h.tape,h3.trans h.output,by rw [size_setCells];exact h.size,fun k hk hs=> ?_⟩
 rw [heap_setCells_other _ _ _ (by rintro rfl;rcases hp with hp|hp<;>first|omega|exact hs hp)]
 exact h.block k hk hs
theorem CellsAt.put{w:World}{g:Nat}{d bs:List UInt8}(h:CellsAt w g 0 (u8s d))(f:Nat)(hf:f+bs.length≤d.length):
  CellsAt (w.setCells g f (u8s bs)) g 0 (u8s (d.take f++bs++d.drop (f+bs.length))):=by
 intro j v hj
 rw [Nat.zero_add]
 simp only [u8s,List.getElem?_map,splice_get d bs f hf,Option.map_eq_some_iff] at hj
 obtain ⟨c,hc,rfl⟩:=hj
 have old:∀t x,d[t]? =some x→w.cell? ⟨g,t,none⟩=some (.int .u8 (x.toNat:Int)):=fun t x ht=>by
  have:=h t (.int .u8 (x.toNat:Int)) (by simp [u8s,ht])
  rwa [Nat.zero_add] at this
 by_cases h1:j<f
 ·rw [if_pos h1] at hc
  rw [World.cell?_setCells_out _ _ _ _ _ (fun _ _=>Or.inl h1),old j c hc]
 ·rw [if_neg h1] at hc
  by_cases h2:j<f+bs.length
  ·rw [if_pos h2] at hc
   obtain ⟨t,rfl⟩:∃t,j=f+t:=⟨j-f,by omega⟩
   rw [Nat.add_sub_cancel_left] at hc
   have ht:t<(u8s bs).length:=by simp;omega
   rw [World.cell?_setCells_in g (u8s bs) f w (fun t ht=>by
    have ht':f+t<d.length:=by simp at ht;omega
    rw [old (f+t) _ (List.getElem?_eq_getElem ht')];rfl) t ht]
   have ht':t<bs.length:=by simpa using ht
   rw [List.getElem?_eq_getElem ht'] at hc
   rw [u8s_get _ _ ht',Option.some.inj hc]
  ·rw [if_neg h2] at hc
   rw [World.cell?_setCells_out _ _ _ _ _ (fun _ _=>Or.inr (by simp;omega)),old j c hc]
theorem WF.same{m m':List Reg}(h:WF m)(hl:m'.length=m.length)(hs:∀i (h:i<m.length) (h':i<m'.length),m'[i].base=m[i].base∧m'[i].data.length=m[i].data.length):WF m' where
 ok:=by
  intro r hr
  obtain ⟨i,hi,rfl⟩:=List.getElem_of_mem hr
  have o:=h.ok _ (List.getElem_mem (show i<m.length by omega))
  obtain ⟨h1,h2⟩:=hs i (by omega) hi
  have o3:=o.high
  unfold Reg.len at o3
  exact ⟨by rw [h1];exact o.low,by rw [h2];exact o.some,by unfold Reg.len;rw [h1,h2];exact o3,by rw [h2];exact o.small⟩
 apart:=by
  rw [List.pairwise_iff_getElem]
  intro i j hi hj hij
  obtain ⟨h1,h2⟩:=hs i (by omega) hi
  obtain ⟨h3,h4⟩:=hs j (by omega) hj
  have:=List.pairwise_iff_getElem.1 h.apart i j (by omega) (by omega) hij
  unfold Reg.len at this ⊢
  rw [h1,h2,h3]
  exact this
 many:=by rw [hl];exact h.many
def HReg.lay(x:HReg)(f:Nat)(bs:List UInt8):HReg:={x with r:={x.r with data:=x.r.data.take f++bs++x.r.data.drop (f+bs.length)}}
theorem HReg.lay_length(x:HReg)(f:Nat)(bs:List UInt8)(hf:f+bs.length≤x.r.data.length):(x.lay f bs).r.data.length=x.r.data.length:=by
 simp [HReg.lay];omega
theorem HReg.lay_cells(x:HReg)(f:Nat)(bs:List UInt8)(hf:f+bs.length≤x.r.data.length):(x.lay f bs).cells=x.cells:=by
 have:=x.lay_length f bs hf
 unfold HReg.cells
 rw [this]
 rfl
theorem flat_set(l:List HReg)(i:Nat)(x y:HReg)(hx:l[i]? =some x)(hc:y.cells=x.cells):flat (l.set i y)=flat l:=by
 unfold flat
 rw [List.flatMap_def,List.flatMap_def,List.map_set,hc]
 congr 1
 apply List.ext_getElem?
 intro j
 rw [List.getElem?_set]
 split
 ·rename_i hij;subst hij
  split
  ·simp [hx]
  ·rename_i h;simp at h;simp [List.getElem?_eq_none h]
 ·rfl
theorem MemL.put{S:Nat→Prop}{w:World}{b:Nat}{v:Value}{l:List HReg}(h:MemL w b v l S)(i:Nat)(x:HReg)(hx:l[i]? =some x)(f:Nat)(bs:List UInt8)(hf:f+bs.length≤x.r.data.length):
  MemL (w.setCells x.g f (u8s bs)) b v (l.set i (x.lay f bs)) S:=by
 obtain ⟨hi,hxe⟩:=List.getElem?_eq_some_iff.1 hx
 have hxm:x∈l:=by rw [←hxe];exact List.getElem_mem hi
 have hgs:(l.set i (x.lay f bs)).map (·.g)=l.map (·.g):=by
  rw [List.map_set]
  apply List.ext_getElem?
  intro j
  rw [List.getElem?_set]
  split
  ·rename_i hij;subst hij
   simp [hi,hxe,HReg.lay]
  ·rfl
 have hmem:∀y∈l.set i (x.lay f bs),y=x.lay f bs∨∃j,∃hj:j<l.length,j≠i∧y=l[j]:=by
  intro y hy
  obtain ⟨j,hj,rfl⟩:=List.getElem_of_mem hy
  rw [List.getElem_set]
  split
  ·exact .inl rfl
  ·rename_i hne;exact .inr ⟨j,by simpa using hj,fun e=>hne e.symm,rfl⟩
 have hneg:∀j (hj:j<l.length),j≠i→l[j].g≠x.g:=by
  intro j hj hne he
  have hnd:=h.nodup
  rw [List.nodup_iff_pairwise_ne,List.pairwise_iff_getElem] at hnd
  rcases Nat.lt_or_gt_of_ne hne with hlt|hlt
  ·exact hnd j i (by simpa using hj) (by simpa using hi) hlt (by simpa [hxe] using he)
  ·exact hnd i j (by simpa using hi) (by simpa using hj) hlt (by simpa [hxe] using he.symm)
 have out:∀a:Addr,a.block≠x.g→(w.setCells x.g f (u8s bs)).cell? a=w.cell? a:=fun a ha=>World.cell?_setCells_out _ _ _ _ _ (fun hb _=>absurd hb ha)
 refine ⟨?_,?_,?_,?_,?_,?_,?_,?_,h.vne,h.vS,h.own⟩
 ·refine h.wf.same (by simp) (fun j hj hj'=> ?_)
  simp only [List.map_set,List.getElem_set,List.getElem_map]
  split
  ·rename_i hij;subst hij
   rw [hxe]
   exact ⟨rfl,x.lay_length f bs hf⟩
  ·exact ⟨rfl,rfl⟩
 ·rw [out _ (fun e=>h.ne x hxm e.symm)];exact h.made
 ·rw [out _ (fun e=>h.ne x hxm e.symm)];exact h.cell
 ·rcases h.list with ⟨rfl,_⟩|⟨bl,cap,rfl,hlt,hc,ho,hne⟩
  ·simp at hi
  ·refine .inr ⟨bl,cap,by simp,by rw [size_setCells];exact hlt,?_,?_,?_⟩
   ·rw [flat_set l i x _ hx (x.lay_cells f bs hf)]
    intro j u hj
    rw [out _ (fun e=>hne x hxm e.symm)]
    exact hc j u hj
   ·intro j hj
    rw [World.frozen?_setCells]
    exact ho j (by simpa using hj)
   ·intro y hy
    rcases hmem y hy with rfl|⟨j,hj,_,rfl⟩
    ·exact hne x hxm
    ·exact hne _ (List.getElem_mem hj)
 ·intro y hy
  rcases hmem y hy with rfl|⟨j,hj,hne,rfl⟩
  ·have hh:=h.here x hxm
   refine ⟨hh.bytes.put f hf,fun j hj=> ?_,by rw [x.lay_length f bs hf];exact hh.cap⟩
   rw [World.frozen?_setCells]
   exact hh.opened j (by rw [x.lay_length f bs hf] at hj;exact hj)
  ·have hh:=h.here _ (List.getElem_mem hj)
   refine ⟨fun t u ht=> ?_,fun t ht=> ?_,hh.cap⟩
   ·rw [out _ (hneg j hj hne)];exact hh.bytes t u ht
   ·rw [World.frozen?_setCells];exact hh.opened t ht
 ·intro y hy
  rcases hmem y hy with rfl|⟨j,hj,_,rfl⟩
  ·exact h.ne x hxm
  ·exact h.ne _ (List.getElem_mem hj)
 ·intro y hy
  rcases hmem y hy with rfl|⟨j,hj,_,rfl⟩
  ·exact h.inS x hxm
  ·exact h.inS _ (List.getElem_mem hj)
 ·rw [hgs];exact h.nodup
def From(w:World):Nat→Prop:=fun k=>w.heap.size≤k
theorem Fr.ours{w w':World}(h:Fr (From w) w w'):Fr No w w':=⟨h.os,h.tape,h.output,h.size,fun k hk _=>h.block k hk (fun hh=>Nat.lt_irrefl _ (Nat.lt_of_lt_of_le hk hh))⟩
theorem Fr.any{S:Nat→Prop}{w w':World}(h:Fr No w w'):Fr S w w':=h.mono (fun _ _ h=>h.elim)
theorem num_any(s:ByteArray)(w:World)(hs:s.size≤maxLen):
  Calls Tryz.prog 144 #[.string s] w fun e w'=>e= .returned (.int .u64 (leNum (s.data.toList.take 8)))∧w=w':=by
 unfold maxLen at hs
 go_enter Tryz.func144,Tryz.ntmps144
 go_wp2
 all_goals
  go_loop [3,8] (fun v i=>∃k:Nat,k≤8∧k≤s.size∧i= .int .i64 k∧v= .int .u64 (leNum (s.data.toList.take k))) (fun _ i=>s.size-(intOf i).toNat)
  case atStart=>exact ⟨0,by omega,by omega,rfl,rfl⟩
  case round=>
   obtain ⟨k,hk8,hks,rfl,rfl⟩:=hrel
   go_wp2
   all_goals first
    |(go_round
      case rel=>
       have h8:k<8:=by omega
       have hk:k<s.data.toList.length:=by simpa using ‹k<s.size›
       have e1:=leNum_take s.data.toList k hk
       have hlt:leNum (s.data.toList.take k)<256^k:=by
        have:=leNum_lt (s.data.toList.take k)
        rwa [List.length_take,Nat.min_eq_left (by omega)] at this
       refine ⟨k+1,by omega,by omega,by go_num,?_⟩
       rw [e1,←or_high _ _ k hlt (UInt8.toNat_lt _) h8]
       rfl
      case measure=>simp [intOf]<;>omega)
    |(go_ret
      have:s.data.toList.take 8=s.data.toList.take k:=by
       by_cases h:k=8
       ·rw [h]
       ·have hl:s.data.toList.length=s.size:=by simp
        rw [List.take_of_length_le (by omega),List.take_of_length_le (by omega)]
      exact ⟨by rw [this];rfl,rfl⟩)
theorem Tryz.info_u8:(Tryz.prog.info? 5).map (fun i=>(i.zero,i.size,i.bytes))=some (some (.int .u8 0),1,1):=by kernel_rfl
theorem make_bytes(n:Nat)(hn:n≤4294967296)(w:World):(Instr.makeSlice 52 (.int .i64 n) (.int .i64 n)).run Tryz.prog w= .ok (.slice (some ⟨w.heap.size,0,none⟩) n n) (w.alloc (.cells (u8s (List.replicate n 0)).toArray 5)):=by
 obtain ⟨i0,hi,hz0,hz1,hz2⟩:=info_parts Tryz.info_u8
 have h:=run_make (P:=Tryz.prog) w 52 5 i0 (.int .u8 0) Tryz.underlying52 hi hz0 .i64 .i64 n n (by omega) (by omega) (by rw [hz2];omega) (by omega)
 rw [h,hz1]
 clear h hn
 simp only [Int.toNat_natCast,Nat.mul_one]
 have e:∀A B:Array Value,A=B→(Result.ok (Value.slice (some ⟨w.heap.size,0,none⟩) n n) (w.alloc (.cells A 5)):Result Value)= .ok (.slice (some ⟨w.heap.size,0,none⟩) n n) (w.alloc (.cells B 5)):=fun A B h=>by rw [h]
 refine e _ _ ?_
 apply Array.ext'
 simp [madeCells,u8s,Value.cells,Nat.mod_one]
 apply List.ext_getElem?
 intro j
 simp only [List.getElem?_replicate]
 by_cases hj:j<n<;>simp [hj]
def byteCells(n v k:Nat):Array Value:=(u8s (leBytes k v++List.replicate (n-k) 0)).toArray
theorem byteCells_size(n v k:Nat)(h:k≤n):(byteCells n v k).size=n:=by simp [byteCells];omega
theorem byteCells_set(n v k:Nat)(h:k<n):(byteCells n v k).setIfInBounds k (.int .u8 ((v:Int)/2^(8*k)%256))=byteCells n v (k+1):=by
 have e:((v:Int)/2^(8*k)%256)=((UInt8.ofNat (v/256^k)).toNat:Int):=by
  rw [show (256:Nat)^k=2^(8*k) by rw [Nat.pow_mul]]
  simp
 rw [e]
 apply Array.ext'
 rw [Array.toList_setIfInBounds]
 unfold byteCells
 rw [leBytes_snoc,show n-k=n-(k+1)+1 by omega,List.replicate_succ]
 simp [u8s,List.set_append_right]
theorem bytes_any(v:Nat)(n:Nat)(w:World)(hv:v<2^64)(hn:n≤8):
  Calls Tryz.prog 17 #[.int .u64 v, .int .i64 n] w fun e w'=>e= .returned (.string ⟨(leBytes n v).toArray⟩)∧Below w.heap.size w w':=by
 have HV:=Lib.hid hv;clear hv
 have h8:¬8<n:=by omega
 have hmk:=make_bytes n (by omega)
 go_enter Tryz.func17,Tryz.ntmps17
 go_wp2
 go_loopw [16] (fun i wr=>∃k:Nat,k≤n∧i= .int .i64 k∧wr=w.alloc (.cells (byteCells n v k) 5)) (fun i _=>n-(intOf i).toNat)
 case atStart=>exact ⟨0,by omega,rfl,by simp [byteCells,leBytes]⟩
 case round=>
  obtain ⟨k,hk,rfl,rfl⟩:=hrel
  clear hmk
  have hsz:=byteCells_size n v k hk
  have hfin:k=n→byteCells n v k=(u8s (leBytes n v)).toArray:=fun h=>by subst h;simp [byteCells]
  have hset:k<n→_:=byteCells_set n v k
  generalize byteCells n v k=C at hsz hset hfin
  have HS:=Lib.hid hset;clear hset
  by_cases hlt:k<n
  ·clear hfin
   go_wp2
   go_roundw
   case rel=>exact ⟨k+1,by omega,by go_num,by rw [HS.out hlt]⟩
   case measure=>simp [intOf]<;>omega
  ·obtain rfl:k=n:=by omega
   have hcv:=run_str_of_bytes (P:=Tryz.prog) (w.alloc (.cells C 5)) 52 9 5 Tryz.underlying52 Tryz.underlying5 Tryz.underlying9 w.heap.size 0 k (leBytes k v) k (by simp) (by rw [hfin rfl];exact CellsAt.new _ _ _)
   clear hfin
   go_wp2
   go_ret
   exact ⟨rfl,(Below.refl _ _).alloc (Nat.le_refl _) _⟩
theorem one_byte(W:World)(x:Int)(h0:0≤x)(h1:x<256):(convert 52 9 (.slice (some ⟨W.heap.size,0,none⟩) 1 1)).run Tryz.prog (W.alloc (.cells #[.int .u8 x] 5))= .ok (.string ⟨#[UInt8.ofNat x.toNat]⟩) (W.alloc (.cells #[.int .u8 x] 5)):=
 run_str_of_bytes _ 52 9 5 Tryz.underlying52 Tryz.underlying5 Tryz.underlying9 W.heap.size 0 1 [UInt8.ofNat x.toNat] 1 rfl (by
  have h:=CellsAt.new W [.int .u8 x] 5
  have e:u8s [UInt8.ofNat x.toNat]= [.int .u8 x]:=by
   simp only [u8s,List.map_cons,List.map_nil]
   have:((UInt8.ofNat x.toNat).toNat:Int)=x:=by simp;omega
   rw [this]
  rw [e];exact h)
theorem refbytes_any(v:Nat)(n:Nat)(w:World)(hv:v<2^64)(hn:n≤8):
  Calls Tryz.prog 56 #[.int .u64 v, .int .i64 n] w fun e w'=>e= .returned (.string ⟨(leBytes n v).toArray⟩)∧Below w.heap.size w w':=by
 have HV:=Lib.hid hv;clear hv
 have h8:¬8<n:=by omega
 go_enter Tryz.func56,Tryz.ntmps56
 go_wp2
 go_loopw [0,5,6] (fun x s i wr=>∃k:Nat,k≤n∧i= .int .i64 k∧x= .int .u64 ((v/256^k:Nat):Int)∧s= .string ⟨(leBytes k v).toArray⟩∧Below w.heap.size w wr) (fun _ _ i _=>n-(intOf i).toNat)
 case atStart=>exact ⟨0,by omega,rfl,by simp,by simp [leBytes],Below.refl _ _⟩
 case round=>
  obtain ⟨k,hk,rfl,rfl,rfl,hb⟩:=hrel
  generalize hS:(⟨(leBytes k v).toArray⟩:ByteArray)=S
  generalize hX:v/256^k=X
  by_cases hlt:k<n
  ·have h1:=one_byte wr ((X:Int)%256) (by omega) (by omega)
   generalize hB:(⟨#[UInt8.ofNat ((X:Int)%256).toNat]⟩:ByteArray)=B at h1
   have hadd:∀W,(Op.stringOp .add S B).run Tryz.prog W= .ok (.string (S++B)) W:=fun W=>run_string_add_sum W S B (by rw [←hS,←hB];simp [ByteArray.size];omega)
   have hfin:S++B=⟨(leBytes (k+1) v).toArray⟩:=by
    rw [←hS,←hB,leBytes_snoc,hX]
    apply ByteArray.ext
    have h0:((X:Int)%256).toNat=X%256:=by omega
    rw [h0]
    apply Array.ext'
    simp
    apply UInt8.toNat.inj
    simp
   have HF:Hid _:=hfin
   have HX:Hid _:=hX
   clear hB hS hX hfin
   go_wp2
   go_roundw
   case rel=>
    refine ⟨k+1,by omega,by go_num,?_,by rw [HF.out],hb.alloc ?_ _⟩
    ·rw [Nat.pow_succ,←Nat.div_div_eq_div_mul,HX.out]
     have hXv:X≤v:=by rw [←HX.out];exact Nat.div_le_self _ _
     have hv:=HV.out
     rw [IntWalk.u64_in _ (by omega)];rfl
    ·have:=hb.size;omega
   case measure=>simp [intOf]<;>omega
  ·obtain rfl:k=n:=by omega
   rw [←hS]
   clear hS
   go_wp2
   go_ret
   exact ⟨rfl,hb⟩
end Go.Proofs.YtjcgmhlbkheadaaGreatDoor
