/- Regions of bytes: what a memory is, without the program; and how it stands in a world. What nums.Num, Bytes and Low compute. memory: what its reading functions compute. -/
import Derived.Test.YtfmcmfiebehhiaaGreatDoorCore1
set_option linter.all false
set_option linter.unusedVariables false
set_option linter.unusedSimpArgs false
set_option maxHeartbeats 1000000
namespace Go.Proofs.YtfmcmfiebehhiaaGreatDoor
open Go.Proofs.Tryz
open Go.RowKit
structure Reg where
 base:Int
 data:List UInt8
 free:Bool
def Reg.len(r:Reg):Int:=r.data.length
def Reg.has(r:Reg)(addr n:Int):Bool:=decide (r.base≤addr∧addr+n≤r.base+r.len)
theorem Reg.has_iff(r:Reg)(addr n):r.has addr n=true↔r.base≤addr∧addr+n≤r.base+(r.data.length:Int):=decide_eq_true_iff
def spot(m:List Reg)(addr n:Int):Option Nat:=m.findIdx? (·.has addr n)
structure Reg.ok(r:Reg):Prop where
 low:0≤r.base
 some:0<r.data.length
 high:r.base+r.len≤18446744073709551615
 small:r.data.length≤9223372036854775807
structure WF(m:List Reg):Prop where
 ok:∀r∈m,r.ok
 apart:m.Pairwise fun a b=>a.base+a.len≤b.base
 many:m.length≤4611686018427387904
def cnt(m:List Reg)(addr:Int):Nat:=m.countP fun r=>decide (r.base≤addr)
theorem WF.tail{r m}(h:WF (r::m)):WF m:=⟨fun x hx=>h.ok x (List.mem_cons_of_mem _ hx),(List.pairwise_cons.1 h.apart).2,by have:=h.many;simp at this;omega⟩
theorem WF.later{r:Reg}{m}(h:WF (r::m)):∀b∈m,r.base+r.len≤b.base:=(List.pairwise_cons.1 h.apart).1
theorem len_pos{r:Reg}(h:r.ok):0<r.len:=by have:=h.some;unfold Reg.len;omega
theorem cnt_zero_of_below{m addr}(h:∀b∈m,addr<b.base):cnt m addr=0:=by
 unfold cnt
 rw [List.countP_eq_zero]
 intro b hb
 have:=h b hb
 simp;omega
theorem cnt_spec{m:List Reg}(h:WF m)(addr):∀i (hi:i<m.length),(m[i].base≤addr↔i<cnt m addr):=by
 induction m with
 |nil=>intro i hi;simp at hi
 |cons r m ih=>
  have hp:=len_pos (h.ok r (by simp))
  intro i hi
  by_cases hr:r.base≤addr
  ·have hc:cnt (r::m) addr=cnt m addr+1:=by simp [cnt,List.countP_cons,hr]
   rw [hc]
   cases i with
   |zero=>simpa using hr
   |succ i=>simpa using ih h.tail i (by simpa using hi)
  ·have hz:cnt (r::m) addr=0:=cnt_zero_of_below (fun b hb=>by
    rcases List.mem_cons.1 hb with rfl|hb
    ·omega
    ·have:=h.later b hb;omega)
   rw [hz]
   cases i with
   |zero=>simpa using hr
   |succ i=>
    have:=h.later (m[i]'(by simpa using hi)) (List.getElem_mem _)
    simp;omega
theorem cnt_le(m:List Reg)(addr):cnt m addr≤m.length:=List.countP_le_length
theorem spot_eq{m:List Reg}(h:WF m)(addr n)(hn:1≤n):
  spot m addr n=if hc:0<cnt m addr then (if (m[cnt m addr-1]'(by have:=cnt_le m addr;omega)).has addr n then some (cnt m addr-1) else none) else none:=by
 have hs:=cnt_spec h addr
 have key:∀i (hi:i<m.length),m[i].has addr n=true→i+1=cnt m addr:=by
  intro i hi hh
  simp only [Reg.has,decide_eq_true_eq] at hh
  have h1:=(hs i hi).1 hh.1
  by_cases h2:i+1<cnt m addr
  ·have hi2:i+1<m.length:=by have:=cnt_le m addr;omega
   have h3:=(hs (i+1) hi2).2 h2
   have:=List.pairwise_iff_getElem.1 h.apart i (i+1) hi hi2 (by omega)
   omega
  ·omega
 split
 ·rename_i hc
  have hl:=cnt_le m addr
  split
  ·rename_i hh
   unfold spot
   rw [List.findIdx?_eq_some_iff_getElem]
   refine ⟨by omega,hh,fun j hj=> ?_⟩
   intro hj2
   have:=key j (by omega) hj2
   omega
  ·rename_i hh
   unfold spot
   rw [List.findIdx?_eq_none_iff]
   intro x hx
   obtain ⟨i,hi,rfl⟩:=List.getElem_of_mem hx
   cases hb:m[i].has addr n with
   |false=>rfl
   |true=>
    have:=key i hi hb
    have e:cnt m addr-1=i:=by omega
    exact absurd (by simp only [e];exact hb) hh
 ·rename_i hc
  unfold spot
  rw [List.findIdx?_eq_none_iff]
  intro x hx
  obtain ⟨i,hi,rfl⟩:=List.getElem_of_mem hx
  cases hb:m[i].has addr n with
  |false=>rfl
  |true=>have:=key i hi hb;omega
theorem spot_lt{m:List Reg}{addr n i}(h:spot m addr n=some i):i<m.length:=
 (List.findIdx?_eq_some_iff_getElem.1 h).1
theorem spot_has{m addr n i}(h:spot m addr n=some i):(m[i]'(spot_lt h)).has addr n=true:=
 (List.findIdx?_eq_some_iff_getElem.1 h).2.1
def Reg.cut(r:Reg)(addr n:Int):List UInt8:=(r.data.drop (addr-r.base).toNat).take n.toNat
def mtext(m:List Reg)(addr n:Int):List UInt8×Int:=
 if n<0 then ([],2) else if n=0 then ([],0) else
 match spot m addr n with
 |none=>([],70)
 |some i=>(((m[i]?).map (·.cut addr n)).getD [],0)
def sizeOk(n:Int):Bool:=n==1||n==2||n==4||n==8
def mread(m:List Reg)(addr n:Int):Nat×Int:=
 if sizeOk n then (leNum (mtext m addr n).1,(mtext m addr n).2) else (0,2)
def Reg.put(r:Reg)(addr:Int)(bs:List UInt8):Reg:=
 {r with data:=r.data.take (addr-r.base).toNat++bs++r.data.drop ((addr-r.base).toNat+bs.length)}
def mput(m:List Reg)(addr:Int)(bs:List UInt8):List Reg:=
 match spot m addr bs.length with
 |none=>m
 |some i=>m.modify i (·.put addr bs)
def mwrite(m:List Reg)(addr n:Int)(v:Nat):List Reg×Int:=
 if sizeOk n then
  match spot m addr n with
  |none=>(m,70)
  |some i=>if ((m[i]?).map (·.free)).getD false then (mput m addr (leBytes n.toNat v),0) else (m,71)
 else (m,2)
structure Fr(S:Nat→Prop)(w w':World):Prop where
 os:w'.os=w.os
 tape:w'.tape=w.tape
 output:w'.output=w.output
 size:w.heap.size≤w'.heap.size
 block:∀k,k<w.heap.size→¬S k→w'.heap[k]? =w.heap[k]?
def No:Nat→Prop:=fun _=>False
theorem Fr.refl(S w):Fr S w w:=⟨rfl,rfl,rfl,Nat.le_refl _,fun _ _ _=>rfl⟩
theorem Fr.trans{S a b c}(h:Fr S a b)(k:Fr S b c):Fr S a c:=
 ⟨k.os.trans h.os,k.tape.trans h.tape,k.output.trans h.output,Nat.le_trans h.size k.size,fun i hi hs=>(k.block i (Nat.lt_of_lt_of_le hi h.size) hs).trans (h.block i hi hs)⟩
theorem Fr.mono{S T}{a b:World}(h:Fr S a b)(hst:∀k,k<a.heap.size→S k→T k):Fr T a b:=
 ⟨h.os,h.tape,h.output,h.size,fun i hi hs=>h.block i hi (fun hh=>hs (hst i hi hh))⟩
theorem Fr.of_below{S}{a b:World}(h:Below a.heap.size a b):Fr S a b:=⟨h.os,h.tape,h.output,h.size,fun i hi _=>h.block i hi⟩
theorem Fr.below{a b:World}(h:Fr No a b):Below a.heap.size a b:=⟨h.os,h.tape,h.output,h.size,fun i hi=>h.block i hi id⟩
theorem Fr.alloc{S}{a w:World}(h:Fr S a w)(o):Fr S a (w.alloc o):=
 h.trans ⟨rfl,rfl,rfl,by simp,fun k hk _=>Below.heap_alloc _ _ _ hk⟩
theorem Fr.drew{S}{a w:World}(h:Fr S a w):Fr S a w.drew:=⟨h.os,h.tape,h.output,h.size,h.block⟩
theorem Fr.drewN{S}{a w:World}(h:Fr S a w)(n):Fr S a (w.drewN n):=⟨h.os,h.tape,h.output,h.size,h.block⟩
theorem Fr.setCell{S}{a w:World}(h:Fr S a w){p:Addr}(hp:a.heap.size≤p.block∨S p.block)(u):Fr S a (w.setCell p u):=
 ⟨h.os,h.tape,h.output,by simpa using h.size,fun k hk hs=>by
  rw [Below.heap_setCell _ _ _ _ (by rintro rfl;rcases hp with hp|hp<;>first|omega|exact hs hp)]
  exact h.block k hk hs⟩
theorem Fr.cell{S}{w w':World}(h:Fr S w w'){a:Addr}{v}(hc:w.cell? a=some v)(hs:¬S a.block):w'.cell? a=some v:=by
 rw [World.cell?_of_block (w:=w) (h.block a.block (World.block_lt_of_cell? w a hc) hs)];exact hc
theorem Fr.frozen{S}{w w':World}(h:Fr S w w'){a:Addr}{v}(hc:w.cell? a=some v)(hs:¬S a.block):w'.frozen? a=w.frozen? a:=
 World.frozen?_of_block (w:=w) (h.block a.block (World.block_lt_of_cell? w a hc) hs)
theorem Fr.cells{S w w'}(h:Fr S w w'){b off vs}(hc:CellsAt w b off vs)(hs:¬S b):CellsAt w' b off vs:=
 fun j v hj=>h.cell (hc j v hj) hs
def Open(w:World)(b off n:Nat):Prop:=∀j,j<n→w.frozen? ⟨b,off+j,none⟩=false
theorem Fr.opened{S}{w w':World}(h:Fr S w w'){b off n}(hb:b<w.heap.size)(hc:Open w b off n)(hs:¬S b):Open w' b off n:=
 fun j hj=>by rw [World.frozen?_of_block (w:=w) (h.block b hb hs)];exact hc j hj
structure HReg where
 r:Reg
 g:Nat
 cap:Nat
instance:Inhabited HReg:=⟨⟨⟨0, [],false⟩,0,0⟩⟩
def HReg.cells(x:HReg):List Value:= [.int .u64 x.r.base, .slice (some ⟨x.g,0,none⟩) x.r.data.length x.cap, .bool x.r.free]
def flat(l:List HReg):List Value:=l.flatMap HReg.cells
theorem flat_length(l:List HReg):(flat l).length=l.length*3:=by
 induction l with
 |nil=>rfl
 |cons x l ih=>simp only [flat,List.flatMap_cons,List.length_append,HReg.cells,List.length_cons,List.length_nil] at*;omega
theorem flat_get(l:List HReg)(i c)(hi:i<l.length)(hc:c<3):(flat l)[i*3+c]? =some (l[i].cells[c]'(by simpa [HReg.cells] using hc)):=by
 induction l generalizing i with
 |nil=>simp at hi
 |cons x l ih=>
  simp only [flat,List.flatMap_cons]
  cases i with
  |zero=>
   rw [List.getElem?_append_left (by simp [HReg.cells];omega)]
   simp only [Nat.zero_mul,Nat.zero_add,List.getElem_cons_zero]
   exact List.getElem?_eq_getElem _
  |succ i=>
   rw [List.getElem?_append_right (by simp [HReg.cells];omega)]
   have:=ih i (by simpa using hi)
   simp only [flat] at this
   rw [show (i+1)*3+c-x.cells.length=i*3+c by simp [HReg.cells];omega,this]
   simp
structure HReg.here(w:World)(x:HReg):Prop where
 bytes:CellsAt w x.g 0 (u8s x.r.data)
 opened:Open w x.g 0 x.r.data.length
 cap:x.r.data.length≤x.cap
def ListAt(w:World)(v:Value)(l:List HReg):Prop:=
 (l= []∧v= .slice none 0 0)∨∃bl cap,v= .slice (some ⟨bl,0,none⟩) l.length cap∧bl<w.heap.size∧CellsAt w bl 0 (flat l)∧Open w bl 0 (l.length*3)∧∀x∈l,x.g≠bl
structure MemL(w:World)(b:Nat)(v:Value)(l:List HReg)(S:Nat→Prop):Prop where
 wf:WF (l.map (·.r))
 made:w.cell? ⟨b,0,none⟩=some (.bool true)
 cell:w.cell? ⟨b,1,none⟩=some v
 list:ListAt w v l
 here:∀x∈l,x.here w
 ne:∀x∈l,x.g≠b
 inS:∀x∈l,S x.g
 nodup:(l.map (·.g)).Nodup
 vne:v.ownBlock≠some b
 vS:∀k,v.ownBlock=some k→S k
 own:S b
def MemAt(w:World)(b:Nat)(m:List Reg)(S:Nat→Prop):Prop:=∃v l,l.map (·.r)=m∧MemL w b v l S
theorem HReg.here.fr{S}{w w':World}{x:HReg}(h:x.here w)(hf:Fr S w w')(hn:¬S x.g)(hp:0<x.r.data.length):x.here w':=by
 have hb:x.g<w.heap.size:=World.block_lt_of_cell? w ⟨x.g,0+0,none⟩ (h.bytes 0 _ (List.getElem?_eq_getElem (by simpa using hp)))
 exact ⟨hf.cells h.bytes hn,hf.opened hb h.opened hn,h.cap⟩
theorem ListAt.fr{S w w'}{v:Value}{l}(h:ListAt w v l)(hf:Fr S w w')(hn:∀k,v.ownBlock=some k→¬S k):ListAt w' v l:=by
 rcases h with h|⟨bl,cap,rfl,hlt,hc,ho,hne⟩
 ·exact .inl h
 ·have:=hn bl rfl
  exact .inr ⟨bl,cap,rfl,by have:=hf.size;omega,hf.cells hc this,hf.opened hlt ho this,hne⟩
theorem MemL.fr{S T w w' b v l}(h:MemL w b v l S)(hf:Fr T w w')(hn:∀k,S k→¬T k):MemL w' b v l S where
 wf:=h.wf
 made:=hf.cell h.made (hn _ h.own)
 cell:=hf.cell h.cell (hn _ h.own)
 list:=h.list.fr hf fun k hk=>hn k (h.vS k hk)
 here:=fun x hx=>(h.here x hx).fr hf (hn _ (h.inS x hx)) (h.wf.ok x.r (List.mem_map_of_mem hx)).some
 ne:=h.ne
 inS:=h.inS
 nodup:=h.nodup
 vne:=h.vne
 vS:=h.vS
 own:=h.own
theorem MemAt.fr{S T w w' b m}(h:MemAt w b m S)(hf:Fr T w w')(hn:∀k,S k→¬T k):MemAt w' b m S:=by
 obtain ⟨v,l,e,h⟩:=h
 exact ⟨v,l,e,h.fr hf hn⟩
theorem MemL.wide{S T w b v l}(h:MemL w b v l S)(hn:∀k,S k→T k):MemL w b v l T:=
 ⟨h.wf,h.made,h.cell,h.list,h.here,h.ne,fun x hx=>hn _ (h.inS x hx),h.nodup,h.vne,fun k hk=>hn _ (h.vS k hk),hn _ h.own⟩
theorem MemL.lt{S}{w:World}{b v l}(h:MemL w b v l S):b<w.heap.size:=World.block_lt_of_cell? w _ h.made
theorem ListAt.reg{w:World}{v}{l:List HReg}(h:ListAt w v l)(i)(hi:i<l.length):
  ∃bl cap,v= .slice (some ⟨bl,0,none⟩) l.length cap∧bl<w.heap.size∧w.cell? ⟨bl,i*3,none⟩=some (.int .u64 l[i].r.base)∧
   w.cell? ⟨bl,i*3+1,none⟩=some (.slice (some ⟨l[i].g,0,none⟩) l[i].r.data.length l[i].cap)∧w.cell? ⟨bl,i*3+2,none⟩=some (.bool l[i].r.free):=by
 rcases h with ⟨rfl,_⟩|⟨bl,cap,rfl,hlt,hc,ho,hne⟩
 ·simp at hi
 ·refine ⟨bl,cap,rfl,hlt,?_,?_,?_⟩
  ·have:=hc (i*3+0) _ (flat_get l i 0 hi (by omega))
   simpa [HReg.cells] using this
  ·have:=hc (i*3+1) _ (flat_get l i 1 hi (by omega))
   simpa [HReg.cells] using this
  ·have:=hc (i*3+2) _ (flat_get l i 2 hi (by omega))
   simpa [HReg.cells] using this
theorem Fr.setCells{S}{a w:World}(h:Fr S a w){b}(hp:a.heap.size≤b∨S b)(o vs):Fr S a (w.setCells b o vs):=by
 obtain ⟨h1,h2,h3⟩:=rest_setCells b vs o w
 refine ⟨h1.trans h.os,h2.trans h.tape,h3.trans h.output,by rw [size_setCells];exact h.size,fun k hk hs=> ?_⟩
 rw [heap_setCells_other _ _ _ (by rintro rfl;rcases hp with hp|hp<;>first|omega|exact hs hp)]
 exact h.block k hk hs
theorem CellsAt.put{w:World}{g}{d bs:List UInt8}(h:CellsAt w g 0 (u8s d))(f)(hf:f+bs.length≤d.length):
  CellsAt (w.setCells g f (u8s bs)) g 0 (u8s (d.take f++bs++d.drop (f+bs.length))):=by
 intro j v hj
 rw [Nat.zero_add]
 simp only [u8s,List.getElem?_map,splice_get d bs f hf,Option.map_eq_some_iff] at hj
 obtain ⟨c,hc,rfl⟩:=hj
 have old:∀t x,d[t]? =some x→w.cell? ⟨g,t,none⟩=some (.int .u8 (x.toNat:Int)):=fun t x ht=>by
  have:=h t (.int .u8 (x.toNat:Int)) (by simp [u8s,ht])
  rwa [Nat.zero_add] at this
 by_cases h1:j<f
 ·rw [if_pos h1] at hc
  rw [World.cell?_setCells_out _ _ _ _ _ (fun _ _=>Or.inl h1),old j c hc]
 ·rw [if_neg h1] at hc
  by_cases h2:j<f+bs.length
  ·rw [if_pos h2] at hc
   obtain ⟨t,rfl⟩:∃t,j=f+t:=⟨j-f,by omega⟩
   rw [Nat.add_sub_cancel_left] at hc
   have ht:t<(u8s bs).length:=by simp;omega
   rw [World.cell?_setCells_in g (u8s bs) f w (fun t ht=>by
    have ht':f+t<d.length:=by simp at ht;omega
    rw [old (f+t) _ (List.getElem?_eq_getElem ht')];rfl) t ht]
   have ht':t<bs.length:=by simpa using ht
   rw [List.getElem?_eq_getElem ht'] at hc
   rw [u8s_get _ _ ht',Option.some.inj hc]
  ·rw [if_neg h2] at hc
   rw [World.cell?_setCells_out _ _ _ _ _ (fun _ _=>Or.inr (by simp;omega)),old j c hc]
theorem WF.same{m m':List Reg}(h:WF m)(hl:m'.length=m.length)(hs:∀i (h:i<m.length) (h':i<m'.length),m'[i].base=m[i].base∧m'[i].data.length=m[i].data.length):WF m' where
 ok:=by
  intro r hr
  obtain ⟨i,hi,rfl⟩:=List.getElem_of_mem hr
  have o:=h.ok _ (List.getElem_mem (show i<m.length by omega))
  obtain ⟨h1,h2⟩:=hs i (by omega) hi
  have o3:=o.high
  unfold Reg.len at o3
  exact ⟨by rw [h1];exact o.low,by rw [h2];exact o.some,by unfold Reg.len;rw [h1,h2];exact o3,by rw [h2];exact o.small⟩
 apart:=by
  rw [List.pairwise_iff_getElem]
  intro i j hi hj hij
  obtain ⟨h1,h2⟩:=hs i (by omega) hi
  obtain ⟨h3,h4⟩:=hs j (by omega) hj
  have:=List.pairwise_iff_getElem.1 h.apart i j (by omega) (by omega) hij
  unfold Reg.len at this ⊢
  rw [h1,h2,h3]
  exact this
 many:=by rw [hl];exact h.many
def HReg.lay(x:HReg)(f:Nat)(bs:List UInt8):HReg:={x with r:={x.r with data:=x.r.data.take f++bs++x.r.data.drop (f+bs.length)}}
theorem HReg.lay_length(x:HReg)(f)(bs:List UInt8)(hf:f+bs.length≤x.r.data.length):(x.lay f bs).r.data.length=x.r.data.length:=by
 simp [HReg.lay];omega
theorem HReg.lay_cells(x:HReg)(f)(bs:List UInt8)(hf:f+bs.length≤x.r.data.length):(x.lay f bs).cells=x.cells:=by
 have:=x.lay_length f bs hf
 unfold HReg.cells
 rw [this]
 rfl
theorem flat_set(l:List HReg)(i)(x y:HReg)(hx:l[i]? =some x)(hc:y.cells=x.cells):flat (l.set i y)=flat l:=by
 unfold flat
 rw [List.flatMap_def,List.flatMap_def,List.map_set,hc]
 congr 1
 apply List.ext_getElem?
 intro j
 rw [List.getElem?_set]
 split
 ·rename_i hij;subst hij
  split
  ·simp [hx]
  ·rename_i h;simp at h;simp [List.getElem?_eq_none h]
 ·rfl
theorem MemL.put{S}{w:World}{b v}{l:List HReg}(h:MemL w b v l S)(i)(x:HReg)(hx:l[i]? =some x)(f)(bs:List UInt8)(hf:f+bs.length≤x.r.data.length):
  MemL (w.setCells x.g f (u8s bs)) b v (l.set i (x.lay f bs)) S:=by
 obtain ⟨hi,hxe⟩:=List.getElem?_eq_some_iff.1 hx
 have hxm:x∈l:=by rw [←hxe];exact List.getElem_mem hi
 have hgs:(l.set i (x.lay f bs)).map (·.g)=l.map (·.g):=by
  rw [List.map_set]
  apply List.ext_getElem?
  intro j
  rw [List.getElem?_set]
  split
  ·rename_i hij;subst hij
   simp [hi,hxe,HReg.lay]
  ·rfl
 have hmem:∀y∈l.set i (x.lay f bs),y=x.lay f bs∨∃j,∃hj:j<l.length,j≠i∧y=l[j]:=by
  intro y hy
  obtain ⟨j,hj,rfl⟩:=List.getElem_of_mem hy
  rw [List.getElem_set]
  split
  ·exact .inl rfl
  ·rename_i hne;exact .inr ⟨j,by simpa using hj,fun e=>hne e.symm,rfl⟩
 have hneg:∀j (hj:j<l.length),j≠i→l[j].g≠x.g:=by
  intro j hj hne he
  have hnd:=h.nodup
  rw [List.nodup_iff_pairwise_ne,List.pairwise_iff_getElem] at hnd
  rcases Nat.lt_or_gt_of_ne hne with hlt|hlt
  ·exact hnd j i (by simpa using hj) (by simpa using hi) hlt (by simpa [hxe] using he)
  ·exact hnd i j (by simpa using hi) (by simpa using hj) hlt (by simpa [hxe] using he.symm)
 have out:∀a:Addr,a.block≠x.g→(w.setCells x.g f (u8s bs)).cell? a=w.cell? a:=fun a ha=>World.cell?_setCells_out _ _ _ _ _ (fun hb _=>absurd hb ha)
 refine ⟨?_,?_,?_,?_,?_,?_,?_,?_,h.vne,h.vS,h.own⟩
 ·refine h.wf.same (by simp) (fun j hj hj'=> ?_)
  simp only [List.map_set,List.getElem_set,List.getElem_map]
  split
  ·rename_i hij;subst hij
   rw [hxe]
   exact ⟨rfl,x.lay_length f bs hf⟩
  ·exact ⟨rfl,rfl⟩
 ·rw [out _ (fun e=>h.ne x hxm e.symm)];exact h.made
 ·rw [out _ (fun e=>h.ne x hxm e.symm)];exact h.cell
 ·rcases h.list with ⟨rfl,_⟩|⟨bl,cap,rfl,hlt,hc,ho,hne⟩
  ·simp at hi
  ·refine .inr ⟨bl,cap,by simp,by rw [size_setCells];exact hlt,?_,?_,?_⟩
   ·rw [flat_set l i x _ hx (x.lay_cells f bs hf)]
    intro j u hj
    rw [out _ (fun e=>hne x hxm e.symm)]
    exact hc j u hj
   ·intro j hj
    rw [World.frozen?_setCells]
    exact ho j (by simpa using hj)
   ·intro y hy
    rcases hmem y hy with rfl|⟨j,hj,_,rfl⟩
    ·exact hne x hxm
    ·exact hne _ (List.getElem_mem hj)
 ·intro y hy
  rcases hmem y hy with rfl|⟨j,hj,hne,rfl⟩
  ·have hh:=h.here x hxm
   refine ⟨hh.bytes.put f hf,fun j hj=> ?_,by rw [x.lay_length f bs hf];exact hh.cap⟩
   rw [World.frozen?_setCells]
   exact hh.opened j (by rw [x.lay_length f bs hf] at hj;exact hj)
  ·have hh:=h.here _ (List.getElem_mem hj)
   refine ⟨fun t u ht=> ?_,fun t ht=> ?_,hh.cap⟩
   ·rw [out _ (hneg j hj hne)];exact hh.bytes t u ht
   ·rw [World.frozen?_setCells];exact hh.opened t ht
 ·intro y hy
  rcases hmem y hy with rfl|⟨j,hj,_,rfl⟩
  ·exact h.ne x hxm
  ·exact h.ne _ (List.getElem_mem hj)
 ·intro y hy
  rcases hmem y hy with rfl|⟨j,hj,_,rfl⟩
  ·exact h.inS x hxm
  ·exact h.inS _ (List.getElem_mem hj)
 ·rw [hgs];exact h.nodup
def From(w:World):Nat→Prop:=fun k=>w.heap.size≤k
theorem Fr.ours{w w'}(h:Fr (From w) w w'):Fr No w w':=⟨h.os,h.tape,h.output,h.size,fun k hk _=>h.block k hk (fun hh=>Nat.lt_irrefl _ (Nat.lt_of_lt_of_le hk hh))⟩
theorem Fr.any{S w w'}(h:Fr No w w'):Fr S w w':=h.mono (fun _ _ h=>h.elim)
theorem num_any(s:ByteArray)(w)(hs:s.size≤maxLen):
  Calls prog 73 #[.string s] w fun e w'=>e= .returned (.int .u64 (leNum (s.data.toList.take 8)))∧w=w':=by
 unfold maxLen at hs
 go_enter func73,ntmps73
 go_wp2
 all_goals
  go_loop [3,8] (fun v i=>∃k:Nat,k≤8∧k≤s.size∧i= .int .i64 k∧v= .int .u64 (leNum (s.data.toList.take k))) (fun _ i=>s.size-(intOf i).toNat)
  case atStart=>exact ⟨0,by omega,by omega,rfl,rfl⟩
  case round=>
   obtain ⟨k,hk8,hks,rfl,rfl⟩:=hrel
   go_wp2
   all_goals first
    |(go_round
      case rel=>
       have h8:k<8:=by omega
       have hk:k<s.data.toList.length:=by simpa using ‹k<s.size›
       have e1:=leNum_take s.data.toList k hk
       have hlt:leNum (s.data.toList.take k)<256^k:=by
        have:=leNum_lt (s.data.toList.take k)
        rwa [List.length_take,Nat.min_eq_left (by omega)] at this
       refine ⟨k+1,by omega,by omega,by go_num,?_⟩
       rw [e1,←or_high _ _ k hlt (UInt8.toNat_lt _) h8]
       rfl
      case measure=>simp [intOf]<;>omega)
    |(go_ret
      have:s.data.toList.take 8=s.data.toList.take k:=by
       by_cases h:k=8
       ·rw [h]
       ·have hl:s.data.toList.length=s.size:=by simp
        rw [List.take_of_length_le (by omega),List.take_of_length_le (by omega)]
      exact ⟨by rw [this];rfl,rfl⟩)
theorem Tryz.info_u8:(prog.info? 5).map (fun i=>(i.zero,i.size,i.bytes))=some (some (.int .u8 0),1,1):=by kernel_rfl
theorem make_bytes(n:Nat)(hn:n≤4294967296)(w:World):(Instr.makeSlice 22 (.int .i64 n) (.int .i64 n)).run prog w= .ok (.slice (some ⟨w.heap.size,0,none⟩) n n) (w.alloc (.cells (u8s (List.replicate n 0)).toArray 5)):=by
 obtain ⟨i0,hi,hz0,hz1,hz2⟩:=info_parts Tryz.info_u8
 have h:=run_make (P:=prog) w 22 5 i0 (.int .u8 0) underlying22 hi hz0 .i64 .i64 n n (by omega) (by omega) (by rw [hz2];omega) (by omega)
 rw [h,hz1]
 clear h hn
 simp only [Int.toNat_natCast,Nat.mul_one]
 have e:∀A B:Array Value,A=B→(Result.ok (Value.slice (some ⟨w.heap.size,0,none⟩) n n) (w.alloc (.cells A 5)):Result Value)= .ok (.slice (some ⟨w.heap.size,0,none⟩) n n) (w.alloc (.cells B 5)):=fun A B h=>by rw [h]
 refine e _ _ ?_
 apply Array.ext'
 simp [madeCells,u8s,Value.cells,Nat.mod_one]
 apply List.ext_getElem?
 intro j
 simp only [List.getElem?_replicate]
 by_cases hj:j<n<;>simp [hj]
def byteCells(n v k:Nat):Array Value:=(u8s (leBytes k v++List.replicate (n-k) 0)).toArray
theorem byteCells_size(n v k)(h:k≤n):(byteCells n v k).size=n:=by simp [byteCells];omega
theorem byteCells_set(n v k)(h:k<n):(byteCells n v k).setIfInBounds k (.int .u8 ((v:Int)/2^(8*k)%256))=byteCells n v (k+1):=by
 have e:((v:Int)/2^(8*k)%256)=((UInt8.ofNat (v/256^k)).toNat:Int):=by
  rw [show (256:Nat)^k=2^(8*k) by rw [Nat.pow_mul]]
  simp
 rw [e]
 apply Array.ext'
 rw [Array.toList_setIfInBounds]
 unfold byteCells
 rw [leBytes_snoc,show n-k=n-(k+1)+1 by omega,List.replicate_succ]
 simp [u8s,List.set_append_right]
theorem bytes_any(v:Nat)(n:Nat)(w:World)(hv:v<2^64)(hn:n≤8):
  Calls prog 23 #[.int .u64 v, .int .i64 n] w fun e w'=>e= .returned (.string ⟨(leBytes n v).toArray⟩)∧Below w.heap.size w w':=by
 have HV:=Lib.hid hv;clear hv
 have h8:¬8<n:=by omega
 have hmk:=make_bytes n (by omega)
 go_enter func23,ntmps23
 go_wp2
 go_loopw [16] (fun i wr=>∃k:Nat,k≤n∧i= .int .i64 k∧wr=w.alloc (.cells (byteCells n v k) 5)) (fun i _=>n-(intOf i).toNat)
 case atStart=>exact ⟨0,by omega,rfl,by simp [byteCells,leBytes]⟩
 case round=>
  obtain ⟨k,hk,rfl,rfl⟩:=hrel
  clear hmk
  have hsz:=byteCells_size n v k hk
  have hfin:k=n→byteCells n v k=(u8s (leBytes n v)).toArray:=fun h=>by subst h;simp [byteCells]
  have hset:k<n→_:=byteCells_set n v k
  generalize byteCells n v k=C at hsz hset hfin
  have HS:=Lib.hid hset;clear hset
  by_cases hlt:k<n
  ·clear hfin
   go_wp2
   go_roundw
   case rel=>exact ⟨k+1,by omega,by go_num,by rw [HS.out hlt]⟩
   case measure=>simp [intOf]<;>omega
  ·obtain rfl:k=n:=by omega
   have hcv:=run_str_of_bytes (P:=prog) (w.alloc (.cells C 5)) 22 9 5 underlying22 underlying5 underlying9 w.heap.size 0 k (leBytes k v) k (by simp) (by rw [hfin rfl];exact CellsAt.new _ _ _)
   clear hfin
   go_wp2
   go_ret
   exact ⟨rfl,(Below.refl _ _).alloc (Nat.le_refl _) _⟩
theorem one_byte(W:World)(x:Int)(h0:0≤x)(h1:x<256):(convert 22 9 (.slice (some ⟨W.heap.size,0,none⟩) 1 1)).run prog (W.alloc (.cells #[.int .u8 x] 5))= .ok (.string ⟨#[UInt8.ofNat x.toNat]⟩) (W.alloc (.cells #[.int .u8 x] 5)):=
 run_str_of_bytes _ 22 9 5 underlying22 underlying5 underlying9 W.heap.size 0 1 [UInt8.ofNat x.toNat] 1 rfl (by
  have h:=CellsAt.new W [.int .u8 x] 5
  have e:u8s [UInt8.ofNat x.toNat]= [.int .u8 x]:=by
   simp only [u8s,List.map_cons,List.map_nil]
   have:((UInt8.ofNat x.toNat).toNat:Int)=x:=by simp;omega
   rw [this]
  rw [e];exact h)
theorem refbytes_any(v:Nat)(n:Nat)(w:World)(hv:v<2^64)(hn:n≤8):
  Calls prog 49 #[.int .u64 v, .int .i64 n] w fun e w'=>e= .returned (.string ⟨(leBytes n v).toArray⟩)∧Below w.heap.size w w':=by
 have HV:=Lib.hid hv;clear hv
 have h8:¬8<n:=by omega
 go_enter func49,ntmps49
 go_wp2
 go_loopw [0,5,6] (fun x s i wr=>∃k:Nat,k≤n∧i= .int .i64 k∧x= .int .u64 ((v/256^k:Nat):Int)∧s= .string ⟨(leBytes k v).toArray⟩∧Below w.heap.size w wr) (fun _ _ i _=>n-(intOf i).toNat)
 case atStart=>exact ⟨0,by omega,rfl,by simp,by simp [leBytes],Below.refl _ _⟩
 case round=>
  obtain ⟨k,hk,rfl,rfl,rfl,hb⟩:=hrel
  generalize hS:(⟨(leBytes k v).toArray⟩:ByteArray)=S
  generalize hX:v/256^k=X
  by_cases hlt:k<n
  ·have h1:=one_byte wr ((X:Int)%256) (by omega) (by omega)
   generalize hB:(⟨#[UInt8.ofNat ((X:Int)%256).toNat]⟩:ByteArray)=B at h1
   have hadd:∀W,(Op.stringOp .add S B).run prog W= .ok (.string (S++B)) W:=fun W=>run_string_add_sum W S B (by rw [←hS,←hB];simp [ByteArray.size];omega)
   have hfin:S++B=⟨(leBytes (k+1) v).toArray⟩:=by
    rw [←hS,←hB,leBytes_snoc,hX]
    apply ByteArray.ext
    have h0:((X:Int)%256).toNat=X%256:=by omega
    rw [h0]
    apply Array.ext'
    simp
    apply UInt8.toNat.inj
    simp
   have HF:Hid _:=hfin
   have HX:Hid _:=hX
   clear hB hS hX hfin
   go_wp2
   go_roundw
   case rel=>
    refine ⟨k+1,by omega,by go_num,?_,by rw [HF.out],hb.alloc ?_ _⟩
    ·rw [Nat.pow_succ,←Nat.div_div_eq_div_mul,HX.out]
     have hXv:X≤v:=by rw [←HX.out];exact Nat.div_le_self _ _
     have hv:=HV.out
     rw [IntWalk.u64_in _ (by omega)];rfl
    ·have:=hb.size;omega
   case measure=>simp [intOf]<;>omega
  ·obtain rfl:k=n:=by omega
   rw [←hS]
   clear hS
   go_wp2
   go_ret
   exact ⟨rfl,hb⟩
theorem at1_any(bx ba b bl cap n i base addr)(w:World)(hi:i<n)(hn:n≤4611686018427387904)(h1:w.cell? ⟨bx,0,none⟩=some (.pointer (some ⟨b,0,none⟩)))(h2:w.cell? ⟨b,1,none⟩=some (.slice (some ⟨bl,0,none⟩) n cap))(h3:w.cell? ⟨bl,i*3,none⟩=some (.int .u64 base))(h4:w.cell? ⟨ba,0,none⟩=some (.int .u64 addr)):
  Calls prog 113 #[.int .i64 i, .pointer (some ⟨bx,0,none⟩), .pointer (some ⟨ba,0,none⟩)] w fun e w'=>e= .returned (.bool (decide (addr<base)))∧∃q,w'=w.drewN q:=by
 have hin:(i:Int)<(n:Int):=by omega
 go_enter func113,ntmps113
 go_wp2
 go_quiet (fail)
 go_wp2
 go_ret
 exact ⟨rfl,_,rfl⟩
def SearchPost(p:Nat→Bool)(n:Nat)(w:World)(e:Ending)(w':World):Prop:=
 ∃r q:Nat,e= .returned (.int .i64 (r:Int))∧w'=w.drewN q∧r≤n∧(∀t,t<r→p t=false)∧(∀t,r≤t→t<n→p t=true)
theorem search_any(cb:Array Value)(n:Nat)(p:Nat→Bool)(w:World)(hn:n≤4611686018427387904)(hmono:∀s t,s≤t→t<n→p s=true→p t=true)(hf:∀q i,i<n→Calls prog 113 (#[.int .i64 (i:Int)]++cb) (w.drewN q) fun e w'=>e= .returned (.bool (p i))∧∃q',w'=(w.drewN q).drewN q'):
  Calls prog 112 #[.int .i64 n, .func (.func 113) #[] cb] w (SearchPost p n w):=by
 have HF:=Lib.hid hf
 have M:=Lib.hid hmono
 clear hf hmono
 go_enter func112,ntmps112
 go_wp2
 go_loopw [5,6] (fun s5 s6 wr=>∃(lo hi q:Nat),s5= .int .i64 lo∧s6= .int .i64 hi∧lo≤hi∧hi≤n∧wr=w.drewN q∧Hid ((∀t,t<lo→p t=false)∧(∀t,hi≤t→t<n→p t=true))) (fun s5 s6 _=>(intOf s6-intOf s5).toNat)
 case atStart=>exact ⟨0,n,0,rfl,rfl,Nat.zero_le _,Nat.le_refl _,rfl,(⟨fun t ht=>absurd ht (Nat.not_lt_zero _),fun t h1 h2=>by omega⟩:(∀t,t<0→p t=false)∧(∀t,n≤t→t<n→p t=true))⟩
 case round=>
  obtain ⟨lo,hi,q,rfl,rfl,hlh,hin,rfl,I⟩:=hrel
  by_cases hlt:lo<hi
  ·have hc:=HF.out q ((lo+hi)/2) (by omega)
   rw [show (((lo+hi)/2:Nat):Int)=((lo:Int)+(hi:Int))/2 by omega] at hc
   cases hp:p ((lo+hi)/2)<;>rw [hp] at hc
   ·have HP:=Lib.hid hp;clear hp
    have HC:=Lib.hid hc;clear hc
    go_wp2_with (go_at_call 113;refine HC.out.mono ?_;rintro e w' ⟨rfl,nq,rfl⟩)
    go_roundw
    case rel=>
     have I2:Hid ((∀t,t<(lo+hi)/2+1→p t=false)∧(∀t,hi≤t→t<n→p t=true)):=⟨fun t ht=>(by
      cases h:p t with
      |false=>rfl
      |true=>have:=M.out t ((lo+hi)/2) (by omega) (by omega) h;rw [HP.out] at this;cases this),I.out.2⟩
     exact ⟨(lo+hi)/2+1,hi,q+nq,by rw [show ((lo:Int)+(hi:Int))/2+1=(((lo+hi)/2+1:Nat):Int) by omega],rfl,by omega,hin,rfl,I2⟩
    case measure=>simp [intOf]<;>omega
   ·have HP:=Lib.hid hp;clear hp
    have HC:=Lib.hid hc;clear hc
    go_wp2_with (go_at_call 113;refine HC.out.mono ?_;rintro e w' ⟨rfl,nq,rfl⟩)
    go_roundw
    case rel=>
     have I2:Hid ((∀t,t<lo→p t=false)∧(∀t,(lo+hi)/2≤t→t<n→p t=true)):=⟨I.out.1,fun t ht htn=>M.out ((lo+hi)/2) t ht htn HP.out⟩
     exact ⟨lo,(lo+hi)/2,q+nq,rfl,by rw [show ((lo:Int)+(hi:Int))/2=(((lo+hi)/2:Nat):Int) by omega],by omega,by omega,rfl,I2⟩
    case measure=>simp [intOf]<;>omega
  ·obtain rfl:hi=lo:=by omega
   go_wp2
   go_ret
   exact ⟨hi,q,rfl,rfl,hin,I.out.1,I.out.2⟩
def atWorld(w:World)(b:Nat)(addr:Int):World:=(w.alloc (.cells #[.pointer (some ⟨b,0,none⟩)] 31)).alloc (.cells #[.int .u64 addr] 37)
theorem cell_atWorld(w:World)(b addr a v)(h:w.cell? a=some v):(atWorld w b addr).cell? a=some v:=by
 have:=World.block_lt_of_cell? w a h
 unfold atWorld
 rw [World.cell?_alloc_lt _ _ _ (by simp;omega),World.cell?_alloc_lt _ _ _ this,h]
theorem atWorld_0(w:World)(b addr):(atWorld w b addr).cell? ⟨w.heap.size,0,none⟩=some (.pointer (some ⟨b,0,none⟩)):=by
 unfold atWorld
 rw [World.cell?_alloc_lt _ _ _ (by simp),World.cell?_alloc_new];rfl
theorem atWorld_1(w:World)(b addr):(atWorld w b addr).cell? ⟨w.heap.size+1,0,none⟩=some (.int .u64 addr):=by
 unfold atWorld
 rw [show w.heap.size+1=(w.alloc (.cells #[.pointer (some ⟨b,0,none⟩)] 31)).heap.size by simp,World.cell?_alloc_new];rfl
theorem ListAt.len_le{w v}{l:List HReg}(h:ListAt w v l):∃ad cap,v= .slice ad l.length cap:=by
 rcases h with ⟨rfl,rfl⟩|⟨bl,cap,rfl,_⟩
 ·exact ⟨none,0,rfl⟩
 ·exact ⟨_,cap,rfl⟩
theorem search_cnt{S}{w:World}{b v}{l:List HReg}(h:MemL w b v l S)(addr)(hn:l.length≤4611686018427387904):
  Calls prog 112 #[.int .i64 l.length, .func (.func 113) #[] #[.pointer (some ⟨w.heap.size,0,none⟩), .pointer (some ⟨w.heap.size+1,0,none⟩)]] (atWorld w b addr)
   fun e w'=>e= .returned (.int .i64 (cnt (l.map (·.r)) addr:Nat))∧∃q,w'=(atWorld w b addr).drewN q:=by
 have hs:=cnt_spec h.wf addr
 simp only [List.length_map,List.getElem_map] at hs
 have hcl:=cnt_le (l.map (·.r)) addr
 rw [List.length_map] at hcl
 refine (search_any _ l.length (fun i=>decide (cnt (l.map (·.r)) addr≤i)) (atWorld w b addr) hn (fun s t hst _ hp=>by simp at*;omega) ?_).mono ?_
 ·intro q i hi
  obtain ⟨bl,cap,rfl,_,c0,_,_⟩:=h.list.reg i hi
  refine (at1_any w.heap.size (w.heap.size+1) b bl cap l.length i l[i].r.base addr ((atWorld w b addr).drewN q) hi hn (atWorld_0 w b addr) (cell_atWorld _ _ _ _ _ h.cell) (cell_atWorld _ _ _ _ _ c0) (atWorld_1 w b addr)).mono ?_
  rintro e w' ⟨rfl,q',rfl⟩
  refine ⟨?_,q',rfl⟩
  congr 2
  have:=hs i hi
  by_cases hh:l[i].r.base≤addr
  ·have:=this.1 hh
   simp;omega
  ·have:¬i<cnt (l.map (·.r)) addr:=fun hx=>hh (this.2 hx)
   simp;omega
 ·rintro e w' ⟨r,q,rfl,rfl,hr,h1,h2⟩
  refine ⟨?_,q,rfl⟩
  have e:r=cnt (l.map (·.r)) addr:=by
   rcases Nat.lt_trichotomy r (cnt (l.map (·.r)) addr) with hlt|he|hgt
   ·have:=h2 r (Nat.le_refl _) (by omega)
    simp at this;omega
   ·exact he
   ·have:=h1 _ hgt
    simp at this
  rw [e]
theorem Fr.atWorld(w b addr):Fr No w (atWorld w b addr):=((Fr.refl No w).alloc _).alloc _
theorem u64_sub(x y)(h:y≤x)(h0:0≤y)(h1:x≤18446744073709551615):IntKind.u64.wrap (x-y)=x-y:=IntWalk.u64_in _ (by omega)
theorem at_none0{S w b v}{l:List HReg}(h:MemL w b v l S)(addr n)(hn:l.length≤4611686018427387904)(hc:cnt (l.map (·.r)) addr=0):
  Calls prog 75 #[.pointer (some ⟨b,0,none⟩), .int .u64 addr, .int .i64 n] w fun e w'=>e= .returned (.tuple #[.slice none 0 0, .bool false])∧Fr No w w':=by
 have hs:=search_cnt h addr hn
 rw [hc] at hs
 obtain ⟨ad,cap,hv⟩:=h.list.len_le
 have h1:=h.cell
 have hb:=h.lt
 rw [hv] at h1
 generalize hL:l.length=L at h1 hn hs
 have HS:=Lib.hid hs
 have HF:Hid _:=Fr.atWorld w b addr
 clear hc hs hv h hL
 go_enter func75,ntmps75
 go_wp2_with (go_at_call 112;change Calls _ _ _ (atWorld w b addr) _;refine HS.out.mono ?_;rintro e w' ⟨rfl,q,rfl⟩)
 go_ret2
 exact ⟨rfl,HF.out.drewN q⟩
end Go.Proofs.YtfmcmfiebehhiaaGreatDoor

