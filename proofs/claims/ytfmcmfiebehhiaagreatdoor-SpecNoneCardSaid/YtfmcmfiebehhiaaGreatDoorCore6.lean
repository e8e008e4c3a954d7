/- memory.New. memory: Regions: the list of the regions, anew. -/
import Derived.Test.YtfmcmfiebehhiaaGreatDoorCore5
import Derived.Test.YtfmcmfiebehhiaaGreatDoorCore3
import Derived.Deep.AppendLies
import Derived.OwnWalk
set_option linter.all false
set_option linter.unusedVariables false
set_option linter.unusedSimpArgs false
set_option maxRecDepth 100000
set_option maxHeartbeats 1000000
namespace Go.Proofs.YtfmcmfiebehhiaaGreatDoor
open Go.Proofs.Tryz
open Go.RowKit Go.Shelf Go.Lib Go.Sort
def Reg.cells(r:Reg):List Value:= [.int .u64 r.base, .string ⟨r.data.toArray⟩, .bool r.free]
def aflat(l:List Reg):List Value:=l.flatMap Reg.cells
theorem aflat_length(l:List Reg):(aflat l).length=l.length*3:=by
 induction l with
 |nil=>rfl
 |cons x l ih=>simp only [aflat,List.flatMap_cons,List.length_append,Reg.cells,List.length_cons,List.length_nil] at*;omega
theorem aflat_get(l:List Reg)(i c)(hi:i<l.length)(hc:c<3):(aflat l)[i*3+c]? =some (l[i].cells[c]'(by simpa [Reg.cells] using hc)):=by
 induction l generalizing i with
 |nil=>simp at hi
 |cons x l ih=>
  simp only [aflat,List.flatMap_cons]
  cases i with
  |zero=>
   rw [List.getElem?_append_left (by simp [Reg.cells];omega)]
   simp only [Nat.zero_mul,Nat.zero_add,List.getElem_cons_zero]
   exact List.getElem?_eq_getElem _
  |succ i=>
   rw [List.getElem?_append_right (by simp [Reg.cells];omega)]
   have:=ih i (by simpa using hi)
   simp only [aflat] at this
   rw [show (i+1)*3+c-x.cells.length=i*3+c by simp [Reg.cells];omega,this]
   simp
structure Reg.typed(r:Reg):Prop where
 low:0≤r.base
 high:r.base≤18446744073709551615
 small:r.data.length≤9223372036854775807
def RegsAt(w:World)(v:Value)(l:List Reg):Prop:=
 (∀r∈l,r.typed)∧((l= []∧∃a c,v= .slice a 0 c)∨∃g off cap,v= .slice (some ⟨g,off,none⟩) l.length cap∧CellsAt w g off (aflat l))
def Reg.good(r:Reg):Bool:=decide (r.data≠ []∧r.base+r.len≤18446744073709551615)
structure NewInv(w:World)(rs:List Reg)(k:Nat)(vk:Value)(l:List HReg)(wr:World):Prop where
 eq:l.map (·.r)=rs.take k
 good:∀r∈rs.take k,r.good=true
 fr:Fr No w wr
 made:wr.cell? ⟨w.heap.size,0,none⟩=some (.bool true)
 cell:wr.cell? ⟨w.heap.size,1,none⟩=some vk
 free:wr.frozen? ⟨w.heap.size,1,none⟩=false
 own:wr.ownsRow (w.heap.size+1) 138 3 vk k (flat l)
 here:∀x∈l,x.here wr∧w.heap.size<x.g∧x.g<wr.heap.size∧vk.ownBlock≠some x.g
 nodup:(l.map (·.g)).Nodup
theorem Reg.good_iff(r:Reg):r.good=true↔(r.data≠ []∧r.base+(r.data.length:Int)≤18446744073709551615):=decide_eq_true_iff
theorem str_empty(l:List UInt8):((⟨l.toArray⟩:ByteArray).toList==([]:List UInt8))=decide (l= []):=by
 rw [Lib.toList_data]
 cases l<;>simp
theorem NewInv.start(w:World)(rs):NewInv w rs 0 (.slice none 0 0) [] (w.alloc (.cells #[.bool true, .slice none 0 0] 136)) where
 eq:=by simp
 good:=by simp
 fr:=(Fr.refl _ _).alloc _
 made:=by rw [World.cell?_alloc_new];rfl
 cell:=by rw [World.cell?_alloc_new];rfl
 free:=World.frozen?_alloc_new _ _ _ _
 own:=World.ownsRow_nil _ _ _ _
 here:=by simp
 nodup:=by simp
theorem bytesRow_cells(data:List UInt8)(cap):∀(j:Nat) (v:Value),(u8s data)[j]? =some v→(bytesRow ⟨data.toArray⟩ cap)[j]? =some v:=by
 intro j v h
 have hlt:j<data.length:=by simpa using (List.getElem?_eq_some_iff.1 h).1
 rw [←h]
 unfold bytesRow
 rw [Array.getElem?_append_left (by simpa using hlt)]
 simp [u8s]
theorem bytesRow_size(data:List UInt8)(cap)(h:data.length≤cap):(bytesRow ⟨data.toArray⟩ cap).size=cap:=by
 unfold bytesRow
 simp [ByteArray.size];omega
theorem NewInv.step{w:World}{rs k}{vk:Value}{l}{wr W1 w1:World}{gg cap2 dcap o2}(h:NewInv w rs k vk l wr)(r:Reg)(hr:rs[k]? =some r)(hgd:r.good=true)(hW1:Fr No wr W1)(hs1:W1.heap.size=wr.heap.size+1)(hdc:r.data.length≤dcap)(hown2:w1.ownsRow (w.heap.size+1) 138 3 (.slice (some ⟨gg,0,none⟩) (k+1) cap2) (k+1) (flat l++ [.int .u64 r.base, .slice (some ⟨wr.heap.size+1,0,none⟩) r.data.length dcap, .bool r.free]))(hgrow:(((W1.alloc (.cells (bytesRow ⟨r.data.toArray⟩ dcap) 5 ((bytesRow ⟨r.data.toArray⟩ dcap).size,(bytesRow ⟨r.data.toArray⟩ dcap).size+1))).alloc o2).drew.drew).grownBy w1 vk.ownBlock)(hat:vk.ownBlock=some gg∨gg=wr.heap.size+3)(hlt:gg<w1.heap.size):
  NewInv w rs (k+1) (.slice (some ⟨gg,0,none⟩) (k+1) cap2) (l++ [⟨r,wr.heap.size+1,dcap⟩]) (w1.setCell ⟨w.heap.size,1,none⟩ (.slice (some ⟨gg,0,none⟩) (k+1) cap2)):=by
 have hB:w.heap.size<wr.heap.size:=World.block_lt_of_cell? wr _ h.made
 have hne:vk.ownBlock≠some w.heap.size:=fun e=>by have:=(h.own.lt _ e).1;omega
 have hgg:gg≠w.heap.size:=by
  rcases hat with e|e
  ·intro e2;rw [e2] at e;exact hne e
  ·omega
 have hvlt:∀b,vk.ownBlock=some b→b<wr.heap.size:=fun b e=>(h.own.lt _ e).2
 generalize hD:bytesRow ⟨r.data.toArray⟩ dcap=D at*
 have old:∀b,b<wr.heap.size→vk.ownBlock≠some b→w1.heap[b]? =wr.heap[b]? :=fun b hb hn=>by
  rw [hgrow.block b (by simp;omega) (fun e=>hn e.symm)]
  show (((W1.alloc _).alloc o2)).heap[b]? =_
  rw [Below.heap_alloc _ _ _ (by simp;omega),Below.heap_alloc _ _ _ (by omega),hW1.block b hb id]
 have new:w1.heap[wr.heap.size+1]? =some (.cells D 5 (D.size,D.size+1)):=by
  rw [hgrow.block (wr.heap.size+1) (by simp;omega) (fun e=>by have:=hvlt _ e.symm;omega)]
  show (((W1.alloc _).alloc o2)).heap[wr.heap.size+1]? =_
  rw [Below.heap_alloc _ _ _ (by simp;omega),←hs1]
  exact heap_alloc_new _ _
 have sz:wr.heap.size+1<w1.heap.size:=by have:=hgrow.size;simp at this;omega
 have oldc:∀b,b≠w.heap.size→b<wr.heap.size→vk.ownBlock≠some b→∀u,(w1.setCell ⟨w.heap.size,1,none⟩ u).heap[b]? =wr.heap[b]? :=fun b hb1 hb hn u=>by
  rw [Below.heap_setCell _ _ _ _ (by simpa using hb1),old b hb hn]
 have newc:∀u,(w1.setCell ⟨w.heap.size,1,none⟩ u).heap[wr.heap.size+1]? =some (.cells D 5 (D.size,D.size+1)):=fun u=>by
  rw [Below.heap_setCell _ _ _ _ (by simp;omega),new]
 have cB:∀i,w1.cell? ⟨w.heap.size,i,none⟩=wr.cell? ⟨w.heap.size,i,none⟩:=fun i=>World.cell?_of_block (w:=wr) (old _ hB hne)
 refine ⟨?_,?_,?_,?_,?_,?_,?_,?_,?_⟩
 ·rw [List.map_append,h.eq,List.take_add_one]
  simp [hr]
 ·intro x hx
  rw [List.take_add_one,List.mem_append] at hx
  rcases hx with hx|hx
  ·exact h.good x hx
  ·rw [hr] at hx
   simp at hx
   rw [hx];exact hgd
 ·have f1:Fr No w w1:=by
   refine ⟨?_,?_,?_,?_,fun b hb _=> ?_⟩
   ·rw [hgrow.os];exact hW1.os.trans h.fr.os
   ·rw [hgrow.tape];exact hW1.tape.trans h.fr.tape
   ·rw [hgrow.output];exact hW1.output.trans h.fr.output
   ·omega
   ·rw [old b (by omega) (fun e=>by have:=(h.own.lt _ e).1;omega)]
    exact h.fr.block b hb id
  exact f1.setCell (.inl (Nat.le_refl _)) _
 ·rw [World.cell?_setCell_other _ _ _ _ (by simp),cB];exact h.made
 ·exact World.cell?_setCell_same _ _ _ (u:=vk) (by rw [cB];exact h.cell)
 ·rw [World.frozen?_setCell,World.frozen?_of_block (w:=wr) (a:=⟨w.heap.size,1,none⟩) (old _ hB hne)];exact h.free
 ·have:flat (l++ [⟨r,wr.heap.size+1,dcap⟩])=flat l++ [.int .u64 r.base, .slice (some ⟨wr.heap.size+1,0,none⟩) r.data.length dcap, .bool r.free]:=by simp [flat,HReg.cells]
  rw [this]
  exact ownsRow_setCell_below hown2 (by simp) _
 ·intro x hx
  rw [List.mem_append] at hx
  rcases hx with hx|hx
  ·obtain ⟨h1,h2,h3,h4⟩:=h.here x hx
   have hb:=oldc x.g (by omega) h3 h4 (.slice (some ⟨gg,0,none⟩) (k+1) cap2)
   refine ⟨⟨fun j v hj=> ?_,fun j hj=> ?_,h1.cap⟩,h2,by simp;omega,?_⟩
   ·rw [World.cell?_of_block (w:=wr) hb];exact h1.bytes j v hj
   ·rw [World.frozen?_of_block (w:=wr) hb];exact h1.opened j hj
   ·simp only [Value.ownBlock]
    intro e
    rcases hat with e2|e2
    ·exact h4 (by rw [e2];exact e)
    ·have:=Option.some.inj e;omega
  ·simp only [List.mem_singleton] at hx
   subst hx
   have hb:=newc (.slice (some ⟨gg,0,none⟩) (k+1) cap2)
   have hDs:D.size=dcap:=by rw [←hD];exact bytesRow_size _ _ hdc
   refine ⟨⟨fun j v hj=> ?_,fun j hj=> ?_,hdc⟩,(by show w.heap.size<wr.heap.size+1;omega),(by show wr.heap.size+1<_;rw [World.size_setCell];exact sz),?_⟩
   ·have:=bytesRow_cells r.data dcap j v hj
    rw [hD] at this
    simp only [World.cell?,hb]
    simpa using this
   ·simp only [World.frozen?,hb]
    have hj2:j<r.data.length:=hj
    have hn:¬D.size≤j:=by omega
    simp [hn]
   ·simp only [Value.ownBlock]
    intro e
    have e':gg=wr.heap.size+1:=Option.some.inj e
    rcases hat with e2|e2
    ·have:=hvlt _ e2;omega
    ·omega
 ·rw [List.map_append,List.nodup_append]
  refine ⟨h.nodup,by simp,?_⟩
  intro a ha b hb
  simp only [List.map_cons,List.map_nil,List.mem_singleton] at hb
  obtain ⟨x,hx,rfl⟩:=List.mem_map.1 ha
  have:=(h.here x hx).2.2.1
  omega
theorem base_inj{m}(h:WF m){a b:Reg}(ha:a∈m)(hb:b∈m)(e:a.base=b.base):a=b:=by
 obtain ⟨i,hi,rfl⟩:=List.getElem_of_mem ha
 obtain ⟨j,hj,rfl⟩:=List.getElem_of_mem hb
 have pi:=len_pos (h.ok _ (List.getElem_mem hi))
 have pj:=len_pos (h.ok _ (List.getElem_mem hj))
 rcases Nat.lt_trichotomy i j with hlt|he|hlt
 ·have:=List.pairwise_iff_getElem.1 h.apart i j hi hj hlt;omega
 ·subst he;rfl
 ·have:=List.pairwise_iff_getElem.1 h.apart j i hj hi hlt;omega
theorem sorted_unique{m m':List Reg}(h:WF m)(hs:m'.Pairwise fun a b=>a.base≤b.base)(hp:m'.Perm m):m'=m:=by
 refine List.Perm.eq_of_pairwise (le:=fun a b=>a.base≤b.base) ?_ hs ?_ hp
 ·intro a b ha hb h1 h2
  exact base_inj h (hp.mem_iff.1 ha) hb (by omega)
 ·refine h.apart.imp_of_mem ?_
  intro a b ha _ hab
  have:=len_pos (h.ok a ha)
  omega
theorem WF.unique{m m':List Reg}(h:WF m)(h':WF m')(hp:m'.Perm m):m'=m:=by
 refine sorted_unique h ?_ hp
 refine h'.apart.imp_of_mem ?_
 intro a b ha _ hab
 have:=len_pos (h'.ok a ha)
 omega
theorem WF.of_sorted{m:List Reg}(hok:∀r∈m,r.ok)(hmany:m.length≤4611686018427387904)(hadj:∀i (h:i+1<m.length),m[i].base+m[i].len≤m[i+1].base):WF m:=by
 refine ⟨hok,?_,hmany⟩
 rw [List.pairwise_iff_getElem]
 intro i j hi hj hij
 obtain ⟨d,rfl⟩:∃d,j=i+1+d:=⟨j-i-1,by omega⟩
 clear hij
 induction d with
 |zero=>exact hadj i hj
 |succ d ih=>
  have h1:=ih (by omega)
  have h2:=hadj (i+1+d) (by omega)
  have h3:=len_pos (hok _ (List.getElem_mem (show i+1+d<m.length by omega)))
  have h4:m[i+1+(d+1)]=m[i+1+d+1]:=rfl
  rw [h4]
  omega
theorem heap_sortWorld(w:World)(bl m d os k)(hk:k<w.heap.size)(hne:k≠bl):(sortWorldK HReg.cells 3 w bl 0 m d os).heap[k]? =w.heap[k]? :=by
 unfold sortWorldK putRowK putRow mapBlock grow Go.Sort.ahead
 simp only []
 rw [Array.getElem?_append_left (by simpa using hk)]
 simp [Array.getElem?_modify,Ne.symm hne]
theorem rest_sortWorld(w:World)(bl m d os):(sortWorldK HReg.cells 3 w bl 0 m d os).os=w.os∧(sortWorldK HReg.cells 3 w bl 0 m d os).tape=w.tape∧(sortWorldK HReg.cells 3 w bl 0 m d os).output=w.output∧w.heap.size≤(sortWorldK HReg.cells 3 w bl 0 m d os).heap.size:=by
 unfold sortWorldK putRowK putRow mapBlock grow Go.Sort.ahead
 simp
theorem holds_of_cells{w bl}{l:List HReg}(hc:CellsAt w bl 0 (flat l))(ho:Open w bl 0 (l.length*3)):HoldsK HReg.cells 3 w bl 0 l.toArray:=by
 intro j hj
 have hj':j<l.length*3:=by simpa using hj
 have hf:=flat_get l (j/3) (j%3) (by omega) (by omega)
 rw [show j/3*3+j%3=j by omega] at hf
 refine ⟨?_,ho j hj'⟩
 rw [hc j _ hf,get_flatK _ _ _ _ (by simpa using hj')]
 simp only [id]
 have h1:l.toArray[j/3]! =l[j/3]'(by omega):=by
  rw [getElem!_pos l.toArray (j/3) (by simp;omega)];simp
 rw [h1,getElem!_pos _ _ (by simp [HReg.cells];omega)]
theorem cells_of_holds{w bl}{d:Array HReg}(h:HoldsK HReg.cells 3 w bl 0 d):CellsAt w bl 0 (flat d.toList)∧Open w bl 0 (d.toList.length*3):=by
 refine ⟨fun j v hj=> ?_,fun j hj=> ?_⟩
 ·have hlt:j<d.toList.length*3:=by rw [←flat_length];exact (List.getElem?_eq_some_iff.1 hj).1
  have hf:=flat_get d.toList (j/3) (j%3) (by omega) (by omega)
  rw [show j/3*3+j%3=j by omega,hj] at hf
  have:=(h j (by simpa using hlt)).1
  rw [get_flatK _ _ _ _ (by simpa using hlt)] at this
  rw [this,hf]
  simp only [id]
  have h1:d[j/3]! =d.toList[j/3]'(by omega):=by
   rw [getElem!_pos d (j/3) (by have:d.toList.length=d.size:=(by simp);omega)];simp
  rw [h1,getElem!_pos _ _ (by simp [HReg.cells];omega)]
 ·have:=(h j (by simpa using hj)).2
  exact this
structure NewSorted(w:World)(rs:List Reg)(bl cap:Nat)(l:List HReg)(w2:World):Prop where
 perm:(l.map (·.r)).Perm rs
 sorted:∀i (h:i+1<l.length),l[i].r.base≤l[i+1].r.base
 len:l.length=rs.length
 fr:Fr No w w2
 made:w2.cell? ⟨w.heap.size,0,none⟩=some (.bool true)
 cell:w2.cell? ⟨w.heap.size,1,none⟩=some (.slice (some ⟨bl,0,none⟩) rs.length cap)
 bl_lo:w.heap.size<bl
 bl_hi:bl<w2.heap.size
 cells:CellsAt w2 bl 0 (flat l)
 opened:Open w2 bl 0 (l.length*3)
 here:∀x∈l,x.here w2∧w.heap.size<x.g∧x.g<w2.heap.size∧x.g≠bl
 nodup:(l.map (·.g)).Nodup
theorem NewInv.sort{w:World}{rs:List Reg}{l:List HReg}{bl cap}{wr:World}(h:NewInv w rs rs.length (.slice (some ⟨bl,0,none⟩) rs.length cap) l wr)(d:Array HReg)(m os)(hp:PermIn 0 l.length l.toArray d)(hs:SortedIn (ltOf fun x y:HReg=>cmp3 x.r.base y.r.base) 0 l.length d):
  NewSorted w rs bl cap d.toList (sortWorldK HReg.cells 3 wr bl 0 m d os):=by
 have hll:l.length=rs.length:=by
  have:=congrArg List.length h.eq
  rw [List.take_of_length_le (Nat.le_refl _)] at this
  simpa using this
 have hd:d.size=l.length:=by have:=hp.1;simpa using this
 have hperm:d.toList.Perm l:=by
  have:=hp.2.2
  rw [Array.extract_eq_self_of_le (by omega)] at this
  rw [Array.extract_eq_self_of_le (by simp)] at this
  simpa using this
 obtain ⟨o1,o2,o3,o4⟩:=rest_sortWorld wr bl m d os
 have hbl:w.heap.size+1≤bl∧bl<wr.heap.size:=h.own.lt bl rfl
 have hcells:CellsAt wr bl 0 (flat l):=by
  intro j v hj
  have:=h.own.cells (g:=bl) rfl j v hj
  rw [addr_add] at this
  exact this
 have hopen:Open wr bl 0 (l.length*3):=by
  rcases h.own.2 with ⟨e,_⟩|⟨g,cap',cur,e,_,hh,_⟩
  ·cases e
  ·cases e
   intro j _
   simp [World.frozen?,hh]
 have hH:=holdsK_sortWorldK_c HReg.cells 3 wr bl 0 l.toArray d m os (holds_of_cells hcells hopen) hbl.2 (by simpa using hd)
 obtain ⟨c1,c2⟩:=cells_of_holds hH
 have keep:∀b,b<wr.heap.size→b≠bl→(sortWorldK HReg.cells 3 wr bl 0 m d os).heap[b]? =wr.heap[b]? :=fun b hb hn=>heap_sortWorld wr bl m d os b hb hn
 have hB:w.heap.size<wr.heap.size:=World.block_lt_of_cell? wr _ h.made
 have kB:∀i,(sortWorldK HReg.cells 3 wr bl 0 m d os).cell? ⟨w.heap.size,i,none⟩=wr.cell? ⟨w.heap.size,i,none⟩:=fun i=>World.cell?_of_block (w:=wr) (keep w.heap.size hB (by omega))
 refine ⟨?_,?_,by simp [hd,hll],?_,by rw [kB];exact h.made,by rw [kB];exact h.cell,by omega,by omega,c1,c2,?_,?_⟩
 ·have:=hperm.map (·.r)
  rw [h.eq,List.take_of_length_le (Nat.le_refl _)] at this
  exact this
 ·intro i hi
  have hi':i+1<d.size:=by simpa using hi
  have:=hs i (i+1) (Nat.zero_le _) (by omega) (by omega)
  rw [lt_cmp3,decide_eq_false_iff_not] at this
  rw [getElem!_pos d i (by omega),getElem!_pos d (i+1) hi'] at this
  simp only [Array.getElem_toList]
  omega
 ·refine ⟨o1.trans h.fr.os,o2.trans h.fr.tape,o3.trans h.fr.output,Nat.le_trans h.fr.size o4,fun k hk _=> ?_⟩
  rw [keep k (by omega) (by omega)]
  exact h.fr.block k hk id
 ·intro x hx
  have hx':x∈l:=hperm.mem_iff.1 hx
  obtain ⟨h1,h2,h3,h4⟩:=h.here x hx'
  have hne:x.g≠bl:=fun e=>h4 (by simp [Value.ownBlock,e])
  have hb:=keep x.g h3 hne
  refine ⟨⟨fun j v hj=> ?_,fun j hj=> ?_,h1.cap⟩,h2,by omega,hne⟩
  ·rw [World.cell?_of_block (w:=wr) hb];exact h1.bytes j v hj
  ·rw [World.frozen?_of_block (w:=wr) hb];exact h1.opened j hj
 ·exact (hperm.map (·.g)).nodup_iff.2 h.nodup
def Made(w w':World):Nat→Prop:=fun k=>w.heap.size≤k∧k<w'.heap.size
theorem NewSorted.mem{w:World}{rs:List Reg}{bl cap}{l:List HReg}{w2 w3}(h:NewSorted w rs bl cap l w2)(hg:∀r∈rs,r.good=true∧r.typed)(h12:rs.length≤12)(hn:0<rs.length)(hadj:∀i (h:i+1<l.length),l[i].r.base+l[i].r.len≤l[i+1].r.base)(hf:Fr No w2 w3):WF (l.map (·.r))∧MemAt w3 w.heap.size (l.map (·.r)) (Made w w3):=by
 have hwf:WF (l.map (·.r)):=by
  refine WF.of_sorted (fun r hr=> ?_) (by rw [List.length_map,h.len];omega) (fun i hi=> ?_)
  ·obtain ⟨h1,h2⟩:=hg r (h.perm.mem_iff.1 hr)
   have h3:=(Reg.good_iff r).1 h1
   refine ⟨h2.low,?_,by unfold Reg.len;exact h3.2,h2.small⟩
   exact List.length_pos_iff.2 h3.1
  ·have:=hadj i (by simpa using hi)
   simpa using this
 refine ⟨hwf, .slice (some ⟨bl,0,none⟩) rs.length cap,l,rfl,?_⟩
 have hsz:=hf.size
 refine ⟨hwf,hf.cell h.made id,hf.cell h.cell id,?_,?_,?_,?_,h.nodup,?_,?_,?_⟩
 ·refine .inr ⟨bl,cap,by rw [h.len],by have:=h.bl_hi;omega,hf.cells h.cells id,hf.opened h.bl_hi h.opened id,fun x hx=>(h.here x hx).2.2.2⟩
 ·intro x hx
  exact (h.here x hx).1.fr hf id (hwf.ok x.r (List.mem_map_of_mem hx)).some
 ·intro x hx
  have:=(h.here x hx).2.1
  omega
 ·intro x hx
  have:=(h.here x hx).2
  exact ⟨by omega,by omega⟩
 ·simp only [Value.ownBlock]
  intro e
  have:=h.bl_lo
  have:=Option.some.inj e
  omega
 ·intro k hk
  simp only [Value.ownBlock] at hk
  have:=h.bl_lo
  have:=h.bl_hi
  have e:=Option.some.inj hk
  exact ⟨by omega,by omega⟩
 ·have:=World.block_lt_of_cell? w2 _ h.made
  exact ⟨Nat.le_refl _,by simp at this;omega⟩
theorem new_sort{w}{rs:List Reg}{l:List HReg}{bl cap wr}(h:NewInv w rs rs.length (.slice (some ⟨bl,0,none⟩) rs.length cap) l wr)(h12:rs.length≤12):
  Calls prog 58 #[.slice (some ⟨bl,0,none⟩) rs.length cap, .func (.func 59) #[] #[]] wr
   fun e w'=>e= .returned (.tuple #[])∧∃l2,NewSorted w rs bl cap l2 w':=by
 have hll:l.length=rs.length:=by
  have:=congrArg List.length h.eq
  rw [List.take_of_length_le (Nat.le_refl _)] at this
  simpa using this
 have hcells:CellsAt wr bl 0 (flat l):=by
  intro j v hj
  have:=h.own.cells (g:=bl) rfl j v hj
  rw [addr_add] at this
  exact this
 have hopen:Open wr bl 0 (l.length*3):=by
  rcases h.own.2 with ⟨e,_⟩|⟨g,cap',cur,e,_,hh,_⟩
  ·cases e
  ·cases e
   intro j _
   simp [World.frozen?,hh]
 have hs:=sort_regs bl cap l.toArray wr (holds_of_cells hcells hopen) (h.own.lt bl rfl).2 (by simp;omega)
 simp only [List.size_toArray,hll] at hs
 refine hs.mono ?_
 rintro e w' ⟨rfl,d',n,os,hp,hso,rfl⟩
 refine ⟨rfl,d'.toList,h.sort d' n os ?_ ?_⟩
 ·rw [hll];exact hp
 ·rw [hll];exact hso
theorem NewSorted.pair{w}{rs:List Reg}{bl cap}{l2:List HReg}{w2 w3:World}(h:NewSorted w rs bl cap l2 w2)(hf:Fr No w2 w3)(hg:∀r∈rs,r.good=true∧r.typed)(j)(hj:j+1<rs.length):
  ∃(b1 b2:Int) (len1 g1 cap1 g2 len2 cap2:Nat) (f1 f2:Bool),w3.cell? ⟨bl,j*3,none⟩=some (.int .u64 b1)∧w3.cell? ⟨bl,j*3+1,none⟩=some (.slice (some ⟨g1,0,none⟩) len1 cap1)∧w3.cell? ⟨bl,j*3+2,none⟩=some (.bool f1)∧
   w3.cell? ⟨bl,(j+1)*3,none⟩=some (.int .u64 b2)∧w3.cell? ⟨bl,(j+1)*3+1,none⟩=some (.slice (some ⟨g2,0,none⟩) len2 cap2)∧w3.cell? ⟨bl,(j+1)*3+2,none⟩=some (.bool f2)∧
   IntKind.u64.wrap (b2-b1)=b2-b1∧IntKind.u64.wrap (len1:Int)=len1∧(∀(h:j+1<l2.length),(l2[j].r.base+l2[j].r.len≤l2[j+1].r.base↔¬(b2-b1<len1))):=by
 have hl2:=h.len
 have hjl:j+1<l2.length:=by omega
 have hcs:=hf.cells h.cells id
 have x0:=hcs (j*3+0) _ (flat_get l2 j 0 (by omega) (by omega))
 have x1:=hcs (j*3+1) _ (flat_get l2 j 1 (by omega) (by omega))
 have x2:=hcs (j*3+2) _ (flat_get l2 j 2 (by omega) (by omega))
 have y0:=hcs ((j+1)*3+0) _ (flat_get l2 (j+1) 0 hjl (by omega))
 have y1:=hcs ((j+1)*3+1) _ (flat_get l2 (j+1) 1 hjl (by omega))
 have y2:=hcs ((j+1)*3+2) _ (flat_get l2 (j+1) 2 hjl (by omega))
 simp only [HReg.cells,List.getElem_cons_zero,List.getElem_cons_succ,Nat.zero_add,Nat.add_zero] at x0 x1 x2 y0 y1 y2
 have hso:=h.sorted j hjl
 have hxt:=(hg l2[j].r (h.perm.mem_iff.1 (List.mem_map_of_mem (List.getElem_mem (by omega))))).2
 have hyt:=(hg l2[j+1].r (h.perm.mem_iff.1 (List.mem_map_of_mem (List.getElem_mem hjl)))).2
 refine ⟨l2[j].r.base,l2[j+1].r.base,l2[j].r.data.length,l2[j].g,l2[j].cap,l2[j+1].g,l2[j+1].r.data.length,l2[j+1].cap,l2[j].r.free,l2[j+1].r.free,x0,x1,x2,y0,y1,y2,?_,?_,fun _=> ?_⟩
 ·exact u64_sub _ _ hso hxt.low hyt.high
 ·exact IntWalk.u64_in _ (by have:=hxt.small;omega)
 ·unfold Reg.len
  omega
def NewPost(rs:List Reg)(w:World)(e:Ending)(w':World):Prop:=
 Fr No w w'∧((∃m b,m.Perm rs∧WF m∧e= .returned (.tuple #[.pointer (some ⟨b,0,none⟩), .int .i64 0])∧MemAt w' b m (Made w w'))∨
  ((¬∃m,m.Perm rs∧WF m)∧e= .returned (.tuple #[.pointer none, .int .i64 2])))
theorem new_bad{rs}{r:Reg}(hr:r∈rs)(h:¬r.good=true):¬∃m,m.Perm rs∧WF m:=by
 rintro ⟨m,hp,hm⟩
 have o:=hm.ok r (hp.mem_iff.2 hr)
 refine h ((Reg.good_iff r).2 ⟨fun e=> ?_,o.high⟩)
 have:=o.some
 rw [e] at this
 simp at this
theorem NewSorted.over{w rs bl cap}{l:List HReg}{w2}(h:NewSorted w rs bl cap l w2)(j)(hj:j+1<l.length)(ho:¬l[j].r.base+l[j].r.len≤l[j+1].r.base):¬∃m,m.Perm rs∧WF m:=by
 rintro ⟨m,hp,hm⟩
 have hs:(l.map (·.r)).Pairwise fun a b=>a.base≤b.base:=by
  rw [List.pairwise_iff_getElem]
  intro i t hi ht hit
  obtain ⟨d,rfl⟩:∃d,t=i+1+d:=⟨t-i-1,by omega⟩
  clear hit
  simp only [List.getElem_map]
  simp only [List.length_map] at hi ht
  induction d with
  |zero=>exact h.sorted i ht
  |succ d ih=>
   have h1:=ih (by simp;omega) (by omega)
   have h2:=h.sorted (i+1+d) (by omega)
   have h4:l[i+1+(d+1)]=l[i+1+d+1]:=rfl
   rw [h4]
   omega
 have e:=sorted_unique hm hs (h.perm.trans hp.symm)
 have:=List.pairwise_iff_getElem.1 hm.apart j (j+1) (by rw [←e];simp;omega) (by rw [←e];simp;omega) (by omega)
 simp only [←e,List.getElem_map] at this
 exact ho this
end Go.Proofs.YtfmcmfiebehhiaaGreatDoor
namespace Go.Proofs.YtfmcmfiebehhiaaGreatDoor
open Go.Proofs.Tryz
open Go.RowKit
theorem Tryz.info_areg:(prog.info? 58).map (fun i=>(i.zero,i.size,i.bytes))=some (some (.agg #[.int .u64 0, .string ⟨#[]⟩, .bool false]),3,32):=by kernel_rfl
structure RgnInv(w:World)(m:List Reg)(k:Nat)(v:Value)(wr:World):Prop where
 fr:Fr No w wr
 own:wr.ownsRow w.heap.size 58 3 v k (aflat (m.take k))
theorem RgnInv.start(w m):RgnInv w m 0 (.slice none 0 0) w:=⟨Fr.refl _ _,World.ownsRow_nil _ _ _ _⟩
theorem RgnInv.step{w wr w1:World}{m:List Reg}{k}{v:Value}{r:Reg}{o1 o2 gg cap}(h:RgnInv w m k v wr)(hr:m[k]? =some r)(hown:w1.ownsRow w.heap.size 58 3 (.slice (some ⟨gg,0,none⟩) (k+1) cap) (k+1) (aflat (m.take k)++ [.int .u64 r.base, .string ⟨r.data.toArray⟩, .bool r.free]))(hgrow:((wr.alloc o1).alloc o2).grownBy w1 v.ownBlock):RgnInv w m (k+1) (.slice (some ⟨gg,0,none⟩) (k+1) cap) w1 where
 fr:=by
  have hz:=hgrow.size
  simp at hz
  have hw:=h.fr.size
  refine ⟨hgrow.os.trans h.fr.os,hgrow.tape.trans h.fr.tape,hgrow.output.trans h.fr.output,by omega,fun b hb _=> ?_⟩
  rw [hgrow.block b (by simp;omega) (fun e=>by have:=(h.own.lt _ e.symm).1;omega),Below.heap_alloc _ _ _ (by simp;omega),Below.heap_alloc _ _ _ (by omega)]
  exact h.fr.block b hb id
 own:=by
  rw [List.take_add_one,hr]
  simpa [aflat,Reg.cells] using hown
theorem regions_walk(b bl n cap)(l:List HReg)(w:World)(hmade:w.cell? ⟨b,0,none⟩=some (.bool true))(hcell:w.cell? ⟨b,1,none⟩=some (.slice (some ⟨bl,0,none⟩) n cap))(hn:l.length=n)(hc:CellsAt w bl 0 (flat l))(hh:∀x∈l,CellsAt w x.g 0 (u8s x.r.data))(hm:n≤1000000):
  Calls prog 96 #[.pointer (some ⟨b,0,none⟩)] w fun e w'=>∃v,e= .returned v∧RgnInv w (l.map (·.r)) n v w':=by
 have HN:=Lib.hid (none_made b w hmade)
 have HC:=Lib.hid hc
 have HL:=Lib.hid hn
 have HH:Hid _:=hh
 clear hc hn hh
 obtain ⟨i0,hi,hz0,hz1,hz2⟩:=info_parts Tryz.info_areg
 go_enter func96,ntmps96
 go_wp2_with (go_at_call 74;refine HN.out.mono ?_;rintro e w' ⟨rfl,rfl⟩)
 go_loopw [3,13] (fun v i wr=>∃(k:Nat),k≤n∧i= .int .i64 k∧Hid (RgnInv w (l.map (·.r)) k v wr)) (fun v i _=>n-(intOf i).toNat)
 case atStart=>exact ⟨0,Nat.zero_le _,rfl,RgnInv.start w _⟩
 case round=>
  obtain ⟨k,hk,rfl,HI⟩:=hrel
  by_cases hlt:k<n
  ·obtain ⟨x,hx⟩:∃x,l[k]? =some x:=⟨l[k]'(by rw [HL.out];exact hlt),List.getElem?_eq_getElem _⟩
   have kc:wr.cell? ⟨bl,k*3,none⟩=some (.int .u64 x.r.base)∧wr.cell? ⟨bl,k*3+1,none⟩=some (.slice (some ⟨x.g,0,none⟩) x.r.data.length x.cap)∧wr.cell? ⟨bl,k*3+2,none⟩=some (.bool x.r.free):=by
    have hkl:k<l.length:=by rw [HL.out];exact hlt
    have hxk:l[k]=x:=by rw [List.getElem?_eq_getElem hkl] at hx;exact Option.some.inj hx
    have hcw:=HI.out.fr.cells HC.out id
    have c0:=hcw (k*3+0) _ (flat_get l k 0 hkl (by omega))
    have c1:=hcw (k*3+1) _ (flat_get l k 1 hkl (by omega))
    have c2:=hcw (k*3+2) _ (flat_get l k 2 hkl (by omega))
    simp only [Nat.zero_add] at c0 c1 c2
    rw [hxk] at c0 c1 c2
    exact ⟨c0,c1,c2⟩
   obtain ⟨k0,k1,k2⟩:=kc
   have hxm:x∈l:=List.mem_of_getElem? hx
   have hr:(l.map (·.r))[k]? =some x.r:=by simp [hx]
   have HS:Hid (∀(w1:World) (o1 o2:Obj) (gg cap:Nat),w1.ownsRow w.heap.size 58 3 (.slice (some ⟨gg,0,none⟩) (k+1) cap) (k+1) (aflat ((l.map (·.r)).take k)++ [.int .u64 x.r.base, .string ⟨x.r.data.toArray⟩, .bool x.r.free])→
    ((wr.alloc o1).alloc o2).grownBy w1 u3.ownBlock→RgnInv w (l.map (·.r)) (k+1) (.slice (some ⟨gg,0,none⟩) (k+1) cap) w1):=fun w1 o1 o2 gg cap h1 h2=>HI.out.step hr h1 h2
   have hown:=HI.out.own
   generalize aflat ((l.map (·.r)).take k)=told at HS hown
   have HV:Hid (∀o,(convert 22 9 (.slice (some ⟨x.g,0,none⟩) x.r.data.length x.cap)).run prog (wr.alloc o)= .ok (.string ⟨x.r.data.toArray⟩) (wr.alloc o)):=fun o=>
    str_at ((HI.out.fr.alloc o).cells (HH.out x hxm) id) x.cap
   generalize (⟨x.r.data.toArray⟩:ByteArray)=S at HS HV
   generalize x.r.base=base at*
   generalize x.r.free=free at*
   generalize x.r.data.length=dl at*
   generalize x.cap=dc at*
   generalize x.g=g at*
   have hcv:=HV.out
   have hbase:w.heap.size≤wr.heap.size:=HI.out.fr.size
   clear hr hx hxm
   have HO:=Lib.hid hown
   clear hown
   have H1:∀o1:Obj,((wr.alloc o1).alloc (.cells #[.int .u64 base, .string S, .bool free] 58)).heap[wr.heap.size+1]? =some (.cells #[.int .u64 base, .string S, .bool free] 58 (0,0)):=fun o1=>by
    have:=heap_alloc_new (wr.alloc o1) (.cells #[.int .u64 base, .string S, .bool free] 58)
    rw [show (wr.alloc o1).heap.size=wr.heap.size+1 by simp] at this
    exact this
   go_wp2_with (at_builtin;refine wpList_append_lies _ rfl _ _ 30 rfl w.heap.size 58 i0 _ 3 32 underlying30 hi hz0 hz1 hz2 rfl (by decide) u3 k told rfl ((HO.out.alloc _).alloc _) ⟨wr.heap.size+1,0,none⟩ 1 1 [.int .u64 base, .string S, .bool free] rfl rfl (World.news_of_block (cs:= #[.int .u64 base, .string S, .bool free]) (t:=58) (fr:=(0,0)) (H1 _)) (by simp [Value.oneCell']) (by omega) (by unfold maxLen;omega) (by omega) (by simp;omega) (wr.heap.size+2) (by simp) ?_;intro gg cap2 w1 hown2 hgrow hat hlt2)
   go_roundw
   case rel=>exact ⟨k+1,by omega,by go_num,HS.out w1 _ _ gg cap2 hown2 hgrow⟩
   case measure=>simp [intOf]<;>omega
  ·obtain rfl:k=n:=by omega
   go_wp2_with fail
   go_ret
   exact ⟨_,rfl,HI.out⟩
theorem regions_empty(b)(w:World)(hmade:w.cell? ⟨b,0,none⟩=some (.bool true))(hcell:w.cell? ⟨b,1,none⟩=some (.slice none 0 0)):
  Calls prog 96 #[.pointer (some ⟨b,0,none⟩)] w fun e w'=>e= .returned (.slice none 0 0)∧w=w':=by
 have HN:=Lib.hid (none_made b w hmade)
 go_enter func96,ntmps96
 go_wp2_with (go_at_call 74;refine HN.out.mono ?_;rintro e w' ⟨rfl,rfl⟩)
 refine wp_loop_rounds 1 ?_
 rw [rounds_succ]
 go_wp2_with fail
 go_ret
 exact ⟨rfl,rfl⟩
theorem cells_of_owns{w:World}{base size n t v xs}(h:w.ownsRow base t size v n xs)(hn:0<n):∃g cap,v= .slice (some ⟨g,0,none⟩) n cap∧base≤g∧CellsAt w g 0 xs:=by
 rcases h.2 with ⟨_,h0⟩|⟨g,cap,cur,hv,hb,hg,_,_,_,hx⟩
 ·omega
 ·refine ⟨g,cap,hv,hb,fun j u hj=> ?_⟩
  rw [Nat.zero_add,cell_of_row w g j cur t _ hg]
  rw [←hx,List.getElem?_take] at hj
  split at hj
  ·simpa using hj
  ·cases hj
theorem RgnInv.regs{w w'}{m:List Reg}{v}(h:RgnInv w m m.length v w')(hm:∀r∈m,r.typed):RegsAt w' v m:=by
 have ho:=h.own
 rw [List.take_length] at ho
 rcases Nat.eq_zero_or_pos m.length with h0|h0
 ·obtain rfl:=List.eq_nil_of_length_eq_zero h0
  rcases ho.2 with ⟨rfl,_⟩|⟨g,cap,cur,rfl,_⟩
  ·exact ⟨hm, .inl ⟨rfl,_,_,rfl⟩⟩
  ·exact ⟨hm, .inl ⟨rfl,_,_,rfl⟩⟩
 ·obtain ⟨g,cap,rfl,_,hc⟩:=cells_of_owns ho h0
  exact ⟨hm, .inr ⟨g,0,cap,rfl,hc⟩⟩
theorem RegsAt.fr{w w' v m}(h:RegsAt w v m)(hf:Fr No w w'):RegsAt w' v m:=by
 rcases h.2 with h2|⟨g,off,cap,e,hc⟩
 ·exact ⟨h.1, .inl h2⟩
 ·exact ⟨h.1, .inr ⟨g,off,cap,e,hf.cells hc id⟩⟩
theorem WF.typed{m}(h:WF m):∀r∈m,r.typed:=fun r hr=>by
 have o:=h.ok r hr
 have:=o.high
 unfold Reg.len at this
 exact ⟨o.low,by omega,o.small⟩
theorem regions_any{S w b}{m:List Reg}(h:MemAt w b m S)(hm:m.length≤1000000):
  Calls prog 96 #[.pointer (some ⟨b,0,none⟩)] w fun e w'=>∃v,e= .returned v∧RegsAt w' v m∧Fr No w w':=by
 obtain ⟨v,l,rfl,h⟩:=h
 rcases h.list with ⟨rfl,rfl⟩|⟨bl,cap,rfl,hlt,hc,ho,hne⟩
 ·refine (regions_empty b w h.made h.cell).mono ?_
  rintro e w' ⟨rfl,rfl⟩
  exact ⟨_,rfl,⟨by simp, .inl ⟨rfl,_,_,rfl⟩⟩,Fr.refl _ _⟩
 ·refine (regions_walk b bl l.length cap l w h.made h.cell rfl hc (fun x hx=>(h.here x hx).bytes) (by simpa using hm)).mono ?_
  rintro e w' ⟨v,rfl,hi⟩
  have hi':RgnInv w (l.map (·.r)) (l.map (·.r)).length v w':=by simpa using hi
  exact ⟨v,rfl,hi'.regs h.wf.typed,hi.fr⟩
end Go.Proofs.YtfmcmfiebehhiaaGreatDoor

