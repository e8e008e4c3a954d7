/- memory: Copy: a memory of its own, with the same bytes. The cells of a region among regions. make([]byte, n) as a string of zeros. firewalllaw07.laid: the chapter's regions. packages alu and cpu: the .. -/
import Derived.Test.YtfmcmfiebehhiaaGreatDoorCore7
import Derived.Deep.RegionWith
import Derived.Test.YtfmcmfiebehhiaaGreatDoorCore6
import Derived.Test.YtfmcmfiebehhiaaGreatDoorCore3
import Derived.Test.YtfmcmfiebehhiaaGreatDoorCore1
import Derived.Test.YtfmcmfiebehhiaaGreatDoorCore2
set_option linter.all false
set_option linter.unusedVariables false
set_option linter.unusedSimpArgs false
set_option maxRecDepth 100000
set_option maxHeartbeats 2000000
namespace Go.Proofs.YtfmcmfiebehhiaaGreatDoor
open Go.Proofs.Tryz
open Go.RowKit
structure CopyInv(w:World)(l:List HReg)(b bl cap:Nat)(k:Nat)(l':List HReg)(wr:World):Prop where
 len:l'.length=k
 eq:l'.map (·.r)=(l.take k).map (·.r)
 fr:Fr No w wr
 lo:w.heap.size≤bl
 lob:w.heap.size≤b
 ne:bl≠b
 lt:bl<wr.heap.size
 made:wr.cell? ⟨b,0,none⟩=some (.bool true)
 cell:wr.cell? ⟨b,1,none⟩=some (.slice (some ⟨bl,0,none⟩) l.length cap)
 cells:CellsAt wr bl 0 (flat (l'++l.drop k))
 opened:Open wr bl 0 (l.length*3)
 here:∀x∈l',x.here wr∧w.heap.size≤x.g∧x.g<wr.heap.size∧x.g≠b∧x.g≠bl
 nodup:(l'.map (·.g)).Nodup
theorem flat_swap(a c:List HReg)(x y:HReg)(h:y.r=x.r):flat (a++y::c)=(flat (a++x::c)).set (a.length*3+1) (.slice (some ⟨y.g,0,none⟩) y.r.data.length y.cap):=by
 have e:∀z,flat (a++z::c)=flat a++(z.cells++flat c):=fun z=>by simp [flat]
 rw [e,e,←flat_length a,List.set_append_right _ _ (by omega),Nat.add_sub_cancel_left]
 simp [HReg.cells,h]
theorem CopyInv.step{w wr W w1:World}{l l':List HReg}{b bl cap k gg cap2}(h:CopyInv w l b bl cap k l' wr){x:HReg}(hx:l[k]? =some x)(hW:Fr No wr W)(hF:Fr No W w1)(hgg:W.heap.size≤gg)(hlt:gg<w1.heap.size)(hc:CellsAt w1 gg 0 (u8s x.r.data))(ho:Open w1 gg 0 x.r.data.length)(hcap:x.r.data.length≤cap2):
  CopyInv w l b bl cap (k+1) (l'++ [⟨x.r,gg,cap2⟩]) (w1.setCell ⟨bl,k*3+1,none⟩ (.slice (some ⟨gg,0,none⟩) x.r.data.length cap2)):=by
 obtain ⟨hk,hxe⟩:=List.getElem?_eq_some_iff.1 hx
 have hfr:=hW.trans hF
 have hz:=hW.size
 have hbw:b<wr.heap.size:=World.block_lt_of_cell? wr _ h.made
 have hlt2:=h.lt
 have hdrop:l.drop k=x::l.drop (k+1):=by rw [List.drop_eq_getElem_cons hk,hxe]
 have hcells:=hfr.cells h.cells id
 have h1:w1.cell? ⟨bl,k*3+1,none⟩=some (.slice (some ⟨x.g,0,none⟩) x.r.data.length x.cap):=by
  have:=hcells (k*3+1) (.slice (some ⟨x.g,0,none⟩) x.r.data.length x.cap) (by
   have:=flat_get (l'++l.drop k) k 1 (by simp [h.len];omega) (by omega)
   rw [this]
   have e:(l'++l.drop k)[k]'(by simp [h.len];omega)=x:=by
    rw [List.getElem_append_right (by rw [h.len];exact Nat.le_refl _)]
    simp [h.len,hxe]
   simp [e,HReg.cells])
  rwa [Nat.zero_add] at this
 have other:∀a:Addr,a.block≠bl→∀u,(w1.setCell ⟨bl,k*3+1,none⟩ u).cell? a=w1.cell? a:=fun a ha u=>World.cell?_setCell_other _ _ _ _ (by
  intro e;exact ha (by rw [←e]))
 refine ⟨by simp [h.len],?_,?_,h.lo,h.lob,h.ne,?_,?_,?_,?_,?_,?_,?_⟩
 ·rw [List.map_append,h.eq,List.take_add_one,List.map_append,hx];rfl
 ·refine ⟨hfr.os.trans h.fr.os,hfr.tape.trans h.fr.tape,hfr.output.trans h.fr.output,by have:=(h.fr.trans hfr).size;simpa using this,fun c hc' _=> ?_⟩
  have:=h.lo
  rw [Below.heap_setCell _ _ _ _ (by show c≠bl;omega)]
  exact (h.fr.trans hfr).block c hc' id
 ·have:=hfr.size;rw [World.size_setCell];omega
 ·rw [other _ (fun e=>h.ne e.symm)];exact hfr.cell h.made id
 ·rw [other _ (fun e=>h.ne e.symm)];exact hfr.cell h.cell id
 ·rw [hdrop] at hcells
  have e:l'++ [(⟨x.r,gg,cap2⟩:HReg)]++l.drop (k+1)=l'++(⟨x.r,gg,cap2⟩:HReg)::l.drop (k+1):=by simp
  rw [e,flat_swap l' _ x ⟨x.r,gg,cap2⟩ rfl,h.len]
  intro j u hj
  rw [List.getElem?_set] at hj
  rw [Nat.zero_add]
  split at hj
  ·rename_i e1
   split at hj
   ·subst e1
    rw [World.cell?_setCell_same _ _ _ h1]
    exact hj
   ·cases hj
  ·rename_i e1
   rw [World.cell?_setCell_other _ _ _ _ (by simp<;>omega)]
   have:=hcells j u hj
   rwa [Nat.zero_add] at this
 ·intro j hj
  rw [World.frozen?_setCell]
  exact (hfr.opened h.lt h.opened id) j hj
 ·intro y hy
  rw [List.mem_append] at hy
  rcases hy with hy|hy
  ·obtain ⟨a1,a2,a3,a4,a5⟩:=h.here y hy
   have old:∀i u,(w1.setCell ⟨bl,k*3+1,none⟩ u).cell? ⟨y.g,i,none⟩=wr.cell? ⟨y.g,i,none⟩:=fun i u=>by
    rw [other _ a5];exact World.cell?_of_block (w:=wr) (hfr.block y.g a3 id)
   refine ⟨⟨fun j v hj=> ?_,fun j hj=> ?_,a1.cap⟩,a2,by have:=hfr.size;rw [World.size_setCell];omega,a4,a5⟩
   ·rw [old];exact a1.bytes j v hj
   ·rw [World.frozen?_setCell,World.frozen?_of_block (w:=wr) (hfr.block y.g a3 id)];exact a1.opened j hj
  ·simp only [List.mem_singleton] at hy
   subst hy
   have n1:gg≠bl:=by omega
   have n2:gg≠b:=by omega
   refine ⟨⟨fun j v hj=> ?_,fun j hj=> ?_,hcap⟩,by have:=h.lo;show w.heap.size≤gg;omega,by simpa using hlt,n2,n1⟩
   ·rw [other _ n1];exact hc j v hj
   ·rw [World.frozen?_setCell];exact ho j hj
 ·rw [List.map_append,List.nodup_append]
  refine ⟨h.nodup,by simp,?_⟩
  intro a ha c hc'
  simp only [List.map_cons,List.map_nil,List.mem_singleton] at hc'
  obtain ⟨y,hy,rfl⟩:=List.mem_map.1 ha
  have:=(h.here y hy).2.2.1
  omega
theorem CopyInv.mem{w wr}{l l':List HReg}{b bl cap}(h:CopyInv w l b bl cap l.length l' wr)(hwf:WF (l.map (·.r))):MemAt wr b (l.map (·.r)) (Made w wr):=by
 have e:l'.map (·.r)=l.map (·.r):=by rw [h.eq,List.take_length]
 refine ⟨_,l',e,by rw [e];exact hwf,h.made,h.cell, .inr ⟨bl,cap,by rw [h.len],h.lt,?_,?_,fun x hx=>(h.here x hx).2.2.2.2⟩,fun x hx=>(h.here x hx).1,fun x hx=>(h.here x hx).2.2.2.1,fun x hx=>⟨(h.here x hx).2.1,(h.here x hx).2.2.1⟩,h.nodup,?_,?_,⟨h.lob,World.block_lt_of_cell? wr _ h.made⟩⟩
 ·have:=h.cells
  simpa using this
 ·have:=h.opened
  rw [h.len];exact this
 ·simp [Value.ownBlock,h.ne]
 ·intro k hk
  simp [Value.ownBlock] at hk
  subst hk
  exact ⟨h.lo,h.lt⟩
theorem CopyInv.start{w w1:World}{l:List HReg}{bl cap}(h:ClonePost l.length (flat l) w 3 (.returned (.slice (some ⟨bl,0,none⟩) l.length cap)) w1):
  CopyInv w l w1.heap.size bl cap 0 [] (w1.alloc (.cells #[.bool true, .slice (some ⟨bl,0,none⟩) l.length cap] 136)):=by
 obtain ⟨gg,cap',he,h1,h2,h3,h4,h5,h6⟩:=h
 cases he
 refine ⟨rfl,by simp,h6.alloc _,h1,h6.size,by omega,by simp;omega,by rw [World.cell?_alloc_new];rfl,by rw [World.cell?_alloc_new];rfl,?_,?_,by simp,by simp⟩
 ·exact ((Fr.refl No w1).alloc _).cells (by simpa using h3) id
 ·exact ((Fr.refl No w1).alloc _).opened h2 h4 id
theorem copy_walk(b bl0 n cap0)(l:List HReg)(w:World)(hmade:w.cell? ⟨b,0,none⟩=some (.bool true))(hcell:w.cell? ⟨b,1,none⟩=some (.slice (some ⟨bl0,0,none⟩) n cap0))(hn:l.length=n)(h1n:1≤n)(hc:CellsAt w bl0 0 (flat l))(hh:∀x∈l,CellsAt w x.g 0 (u8s x.r.data))(hm:n≤1000000)(hd:∀x∈l,1≤x.r.data.length∧x.r.data.length≤140737488355328):
  Calls prog 95 #[.pointer (some ⟨b,0,none⟩)] w fun e w'=>∃b' bl cap l',e= .returned (.pointer (some ⟨b',0,none⟩))∧CopyInv w l b' bl cap n l' w':=by
 have HN:=Lib.hid (none_made b w hmade)
 have HL:=Lib.hid hn
 have HH:Hid _:=hh
 have HD:Hid _:=hd
 have HCl:=Lib.hid (clone_regs bl0 n cap0 l w hn h1n hm hc)
 clear hc hn hh hd
 go_enter func95,ntmps95
 go_wp2_with (first|(go_at_call 74;refine HN.out.mono ?_;rintro e w' ⟨rfl,rfl⟩))
 refine HCl.out.mono ?_
 rintro e w1 hp
 obtain ⟨bl,cap,rfl, -⟩:=id hp
 have HS:Hid (CopyInv w l w1.heap.size bl cap 0 [] (w1.alloc (.cells #[.bool true, .slice (some ⟨bl,0,none⟩) n cap] 136))):=by
  have h2:=HL.out
  subst h2
  exact CopyInv.start hp
 go_wp2_with fail
 generalize w1.heap.size=B at*
 have hfB:B≠bl:=fun e=>HS.out.ne e.symm
 clear hp
 generalize w1.alloc (.cells #[.bool true, .slice (some ⟨bl,0,none⟩) n cap] 136)=W0 at*
 have kW0:=HS.out.cell
 rw [HL.out] at kW0
 go_wp2_with fail
 go_loopw [4,19] (fun _ i wr=>∃(k:Nat) (l':List HReg),k≤n∧i= .int .i64 k∧Hid (CopyInv w l B bl cap k l' wr)) (fun _ i _=>n-(intOf i).toNat)
 case atStart=>exact ⟨0, [],Nat.zero_le _,rfl,HS⟩
 case round=>
  obtain ⟨k,l',hk,rfl,HI⟩:=hrel
  by_cases hlt:k<n
  ·obtain ⟨x,hx⟩:∃x,l[k]? =some x:=⟨l[k]'(by rw [HL.out];exact hlt),List.getElem?_eq_getElem _⟩
   have hkl:k<l.length:=by rw [HL.out];exact hlt
   have hxk:l[k]=x:=by rw [List.getElem?_eq_getElem hkl] at hx;exact Option.some.inj hx
   have hxm:x∈l:=List.mem_of_getElem? hx
   have kB:=HI.out.cell
   rw [HL.out] at kB
   have kc:wr.cell? ⟨bl,k*3+1,none⟩=some (.slice (some ⟨x.g,0,none⟩) x.r.data.length x.cap):=by
    have:=HI.out.cells (k*3+1) (.slice (some ⟨x.g,0,none⟩) x.r.data.length x.cap) (by
     have:=flat_get (l'++l.drop k) k 1 (by simp [HI.out.len];omega) (by omega)
     rw [this]
     have e:(l'++l.drop k)[k]'(by simp [HI.out.len];omega)=x:=by
      rw [List.getElem_append_right (by rw [HI.out.len];exact Nat.le_refl _)]
      simp [HI.out.len,hxk]
     simp [e,HReg.cells])
    rwa [Nat.zero_add] at this
   have kf:wr.frozen? ⟨bl,k*3+1,none⟩=false:=by
    have:=HI.out.opened (k*3+1) (by omega)
    rwa [Nat.zero_add] at this
   have HCB:Hid (∀W,Fr No wr W→Calls prog 137 #[.slice (some ⟨x.g,0,none⟩) x.r.data.length x.cap] W fun e w2=>∃gg cap2,e= .returned (.slice (some ⟨gg,0,none⟩) x.r.data.length cap2)∧w2.cell? ⟨B,1,none⟩=some (.slice (some ⟨bl,0,none⟩) n cap)∧
     w2.cell? ⟨bl,k*3+1,none⟩=some (.slice (some ⟨x.g,0,none⟩) x.r.data.length x.cap)∧w2.frozen? ⟨bl,k*3+1,none⟩=false∧
     Hid (CopyInv w l B bl cap (k+1) (l'++ [⟨x.r,gg,cap2⟩]) (w2.setCell ⟨bl,k*3+1,none⟩ (.slice (some ⟨gg,0,none⟩) x.r.data.length cap2)))):=fun W hW=>by
    have hdx:=HD.out x hxm
    refine (clone_bytes x.g x.r.data.length x.cap x.r.data W rfl hdx.1 hdx.2 ((HI.out.fr.trans hW).cells (HH.out x hxm) id)).mono ?_
    rintro e w2 ⟨gg,cap2,rfl,p1,p2,p3,p4,p5,p6⟩
    have hf:=hW.trans p6
    rw [Nat.mul_one] at p4
    exact ⟨gg,cap2,rfl,hf.cell kB id,hf.cell kc id,(hf.frozen kc id).trans kf,HI.out.step hx hW p6 p1 p2 p3 p4 p5⟩
   generalize x.r.data.length=dl at*
   generalize x.g=g at*
   generalize x.cap=dc at*
   clear hx hxm hxk hkl
   go_wp2_with fail
   have hF0:∀W,W.os=wr.os→W.tape=wr.tape→W.output=wr.output→W.heap=wr.heap→Fr No wr W:=fun W h1 h2 h3 h4=>⟨h1,h2,h3,by rw [h4];exact Nat.le_refl _,fun _ _ _=>by rw [h4]⟩
   go_region_with (go_at_call 137;refine (HCB.out _ (by exact hF0 _ rfl rfl rfl rfl)).mono ?_;rintro e w2 ⟨gg,cap2,rfl,e1,e2,e3,HN2⟩)
   all_goals
    go_wp2_with fail
    go_roundw
    case rel=>exact ⟨k+1,_,by omega,by go_num,HN2⟩
    case measure=>simp [intOf]<;>omega
  ·obtain rfl:k=n:=by omega
   go_wp2_with fail
   go_ret
   exact ⟨_,_,_,_,rfl,HI.out⟩
theorem clone_zero(g c)(w:World):Calls prog 136 #[.slice (some ⟨g,0,none⟩) 0 c] w fun e w'=>e= .returned (.slice (some ⟨w.heap.size,0,none⟩) 0 0)∧w'=w.alloc (.cells #[] 138):=by
 have kn:=fun w=>slice_nil_ne_reg w ⟨g,0,none⟩ 0 c
 go_enter func136,ntmps136
 go_wp2_with fail
 go_ret
 exact ⟨rfl,rfl⟩
theorem copy_zero(b bl cap)(w:World)(hmade:w.cell? ⟨b,0,none⟩=some (.bool true))(hcell:w.cell? ⟨b,1,none⟩=some (.slice (some ⟨bl,0,none⟩) 0 cap)):
  Calls prog 95 #[.pointer (some ⟨b,0,none⟩)] w fun e w'=>e= .returned (.pointer (some ⟨w.heap.size+1,0,none⟩))∧w'=(w.alloc (.cells #[] 138)).alloc (.cells #[.bool true, .slice (some ⟨w.heap.size,0,none⟩) 0 0] 136):=by
 have HN:=Lib.hid (none_made b w hmade)
 go_enter func95,ntmps95
 go_wp2_with (first|(go_at_call 74;refine HN.out.mono ?_;rintro e w' ⟨rfl,rfl⟩)|(go_at_call 136;refine (clone_zero _ _ _).mono ?_;rintro e w' ⟨rfl,rfl⟩))
 refine wp_loop_rounds 1 ?_
 rw [rounds_succ]
 go_wp2_with fail
 go_ret
 exact ⟨rfl,rfl⟩
theorem copy_empty(b)(w:World)(hmade:w.cell? ⟨b,0,none⟩=some (.bool true))(hcell:w.cell? ⟨b,1,none⟩=some (.slice none 0 0)):
  Calls prog 95 #[.pointer (some ⟨b,0,none⟩)] w fun e w'=>e= .returned (.pointer (some ⟨w.heap.size,0,none⟩))∧w'=w.alloc (.cells #[.bool true, .slice none 0 0] 136):=by
 have HN:=Lib.hid (none_made b w hmade)
 go_enter func95,ntmps95
 go_wp2_with (first|(go_at_call 74;refine HN.out.mono ?_;rintro e w' ⟨rfl,rfl⟩)|(go_at_call 136;refine (clone_nil _).mono ?_;rintro e w' ⟨rfl,rfl⟩))
 refine wp_loop_rounds 1 ?_
 rw [rounds_succ]
 go_wp2_with fail
 go_ret
 exact ⟨rfl,rfl⟩
theorem copy_any{S}{w:World}{b}{m:List Reg}(h:MemAt w b m S)(hm:m.length≤1000000)(hd:∀r∈m,r.data.length≤140737488355328):
  Calls prog 95 #[.pointer (some ⟨b,0,none⟩)] w fun e w'=>∃b',e= .returned (.pointer (some ⟨b',0,none⟩))∧Fr No w w'∧MemAt w' b' m (Made w w'):=by
 obtain ⟨v,l,rfl,h⟩:=h
 rcases h.list with ⟨rfl,rfl⟩|⟨bl,cap,rfl,hlt,hc,ho,hne⟩
 ·refine (copy_empty b w h.made h.cell).mono ?_
  rintro e w' ⟨rfl,rfl⟩
  exact ⟨_,rfl,(Fr.refl _ _).alloc _,new_none_mem w _ (Fr.refl _ _)⟩
 ·rcases Nat.eq_zero_or_pos l.length with h0|h0
  ·obtain rfl:=List.eq_nil_of_length_eq_zero h0
   refine (copy_zero b bl cap w h.made h.cell).mono ?_
   rintro e w' ⟨rfl,rfl⟩
   have hf:Fr No w ((w.alloc (.cells #[] 138)).alloc (.cells #[.bool true, .slice (some ⟨w.heap.size,0,none⟩) 0 0] 136)):=((Fr.refl _ _).alloc _).alloc _
   have e1:(w.alloc (.cells #[] 138)).heap.size=w.heap.size+1:=by simp
   refine ⟨_,rfl,hf, .slice (some ⟨w.heap.size,0,none⟩) 0 0, [],rfl,⟨by simp,by simp,by simp⟩,by rw [←e1,World.cell?_alloc_new];rfl,by rw [←e1,World.cell?_alloc_new];rfl, .inr ⟨w.heap.size,0,rfl,by simp;omega,fun j v hj=>by simp [flat] at hj,fun j hj=>by simp at hj,by simp⟩,by simp,by simp,by simp,by simp,by simp [Value.ownBlock],?_,?_⟩
   ·intro k hk
    simp [Value.ownBlock] at hk
    subst hk
    exact ⟨Nat.le_refl _,by simp;omega⟩
   ·exact ⟨by omega,by simp⟩
  ·refine (copy_walk b bl l.length cap l w h.made h.cell rfl h0 hc (fun x hx=>(h.here x hx).bytes) (by simpa using hm) (fun x hx=>⟨(h.wf.ok x.r (List.mem_map_of_mem hx)).some,hd x.r (List.mem_map_of_mem hx)⟩)).mono ?_
   rintro e w' ⟨b',bl',cap',l',rfl,hi⟩
   exact ⟨b',rfl,hi.fr,hi.mem h.wf⟩
theorem areg_cells{w:World}{g off m}(h:CellsAt w g off (aflat m)){k}{r:Reg}(hr:m[k]? =some r):
  w.cell? ⟨g,off+k*3,none⟩=some (.int .u64 r.base)∧w.cell? ⟨g,off+k*3+1,none⟩=some (.string ⟨r.data.toArray⟩)∧w.cell? ⟨g,off+k*3+2,none⟩=some (.bool r.free):=by
 obtain ⟨hk,hx⟩:=List.getElem?_eq_some_iff.1 hr
 have c0:=h (k*3+0) _ (aflat_get m k 0 hk (by omega))
 have c1:=h (k*3+1) _ (aflat_get m k 1 hk (by omega))
 have c2:=h (k*3+2) _ (aflat_get m k 2 hk (by omega))
 rw [hx] at c0 c1 c2
 exact ⟨c0,c1,c2⟩
def zs(n:Nat):ByteArray:=⟨(List.replicate n (0:UInt8)).toArray⟩
theorem RegsAt.new(w:World)(rs:List Reg)(cap)(h:∀r∈rs,r.typed):RegsAt (w.alloc (.cells (aflat rs).toArray 58)) (.slice (some ⟨w.heap.size,0,none⟩) rs.length cap) rs:=
 ⟨h, .inr ⟨_,_,_,rfl,CellsAt.new _ _ _⟩⟩
theorem new_is{rs m:List Reg}{v w}(h:RegsAt w v rs)(h12:rs.length≤12)(hp:m.Perm rs)(hm:WF m):
  Calls prog 26 #[v] w fun e w'=>∃b,e= .returned (.tuple #[.pointer (some ⟨b,0,none⟩), .int .i64 0])∧Fr No w w'∧MemAt w' b m (Made w w'):=by
 refine (new_any rs v w h h12).mono ?_
 rintro e w' ⟨hf,⟨m',b,hp',hm',rfl,hmem⟩|⟨hno,_⟩⟩
 ·obtain rfl:=hm.unique hm' (hp'.trans hp.symm)
  exact ⟨b,rfl,hf,hmem⟩
 ·exact absurd ⟨m,hp,hm⟩ hno
theorem word_pow(wide):wordN wide=2^bitsN wide:=by cases wide<;>rfl
def doP(wide:Bool)(op a b k m:Nat):Nat:=
 if op=0x00 then (a+b)%wordN wide
 else if op=0x10 then (a+(wordN wide-b))%wordN wide
 else if op=0x20 then a*b%wordN wide
 else if op=0x40 then a|||b
 else if op=0x50 then a&&&b
 else if op=0xa0 then a^^^b
 else if op=0x60 then a*2^k%wordN wide
 else if op=0x70 then a/2^k
 else if op=0xc0 then m
 else b
def opsL:List Nat:= [0x00,0x10,0x20,0x40,0x50,0xa0,0x60,0x70,0xc0,0xb0]
theorem doM_doP(op wide a b)(h:op∈opsL):doM op wide a b=doP wide op (a%wordN wide) (b%wordN wide) (b%wordN wide%bitsN wide) (sarN wide (a%wordN wide) (b%wordN wide%bitsN wide)):=by
 unfold opsL at h
 simp only [List.mem_cons,List.not_mem_nil,or_false] at h
 rcases h with rfl|rfl|rfl|rfl|rfl|rfl|rfl|rfl|rfl|rfl<;>simp [doM,doP]
theorem wrap64_nat(n:Nat):IntKind.u64.wrap (n:Int)=((n%18446744073709551616:Nat):Int):=by rw [IntKind.wrap_u64];omega
theorem sub64_nat(a b:Nat)(hb:b<18446744073709551616):IntKind.u64.wrap ((a:Int)-b)=(((a+(18446744073709551616-b))%18446744073709551616:Nat):Int):=by rw [IntKind.wrap_u64];omega
theorem sub32_nat(a b:Nat)(hb:b<4294967296):((a:Int)-b)%4294967296=(((a+(4294967296-b))%4294967296:Nat):Int):=by omega
theorem bits64_nat(a b:Nat)(ha:a<18446744073709551616)(hb:b<18446744073709551616):bits .and .u64 (a:Int) b=((a&&&b:Nat):Int)∧bits .or .u64 (a:Int) b=((a|||b:Nat):Int):=bits_nat .u64 64 (by decide) (fun n h0 h1=>IntWalk.u64_in _ (by omega)) a b ha hb
theorem bits32_nat(a b:Nat)(ha:a<4294967296)(hb:b<4294967296):bits .and .u32 (a:Int) b=((a&&&b:Nat):Int)∧bits .or .u32 (a:Int) b=((a|||b:Nat):Int):=bits_nat .u32 32 (by decide) (fun n h0 h1=>by rw [IntKind.wrap_u32'];omega) a b ha hb
theorem xor32_nat(a b:Nat)(ha:a<4294967296)(hb:b<4294967296):bits .xor .u32 (a:Int) b=((a^^^b:Nat):Int):=by
 have h:a^^^b<2^32:=Nat.xor_lt_two_pow ha hb
 simp only [bits,BitVec.ofInt_natCast,BitVec.toNat_xor,BitVec.toNat_ofNat]
 rw [show IntKind.u32.bits=32 by rfl,Nat.mod_eq_of_lt (show a<2^32 from ha),Nat.mod_eq_of_lt (show b<2^32 from hb),IntKind.wrap_u32']
 omega
theorem pow_cast(a k:Nat):((a:Int)*2^k)=((a*2^k:Nat):Int):=by push_cast;rfl
theorem div_cast(a k:Nat):((a:Int)/2^k)=((a/2^k:Nat):Int):=by push_cast;rfl
theorem do64_00(a b k m:Nat)(ha:a<18446744073709551616)(hb:b<18446744073709551616)(hk:k<64)(w:World):
  Calls prog 145 #[.int .u8 0, .int .u64 a, .int .u64 b, .int .u64 k, .int .u64 m] w fun e w'=>e= .returned (.int .u64 (doP true 0 a b k m))∧w=w':=by
 have E:IntKind.u64.wrap ((a:Int)+b)=((doP true 0 a b k m:Nat):Int):=wrap64_nat (a+b)
 have HE:=Lib.hid E
 clear E
 go_enter func145,ntmps145
 go_wp2_with fail
 go_ret
 exact ⟨congrArg (fun z=>Ending.returned (Value.int .u64 z)) HE.out,rfl⟩
theorem do64_10(a b k m:Nat)(ha:a<18446744073709551616)(hb:b<18446744073709551616)(hk:k<64)(w:World):
  Calls prog 145 #[.int .u8 16, .int .u64 a, .int .u64 b, .int .u64 k, .int .u64 m] w fun e w'=>e= .returned (.int .u64 (doP true 16 a b k m))∧w=w':=by
 have E:IntKind.u64.wrap ((a:Int)-b)=((doP true 16 a b k m:Nat):Int):=sub64_nat a b hb
 have HE:=Lib.hid E
 clear E
 go_enter func145,ntmps145
 go_wp2_with fail
 go_ret
 exact ⟨congrArg (fun z=>Ending.returned (Value.int .u64 z)) HE.out,rfl⟩
theorem do64_20(a b k m:Nat)(ha:a<18446744073709551616)(hb:b<18446744073709551616)(hk:k<64)(w:World):
  Calls prog 145 #[.int .u8 32, .int .u64 a, .int .u64 b, .int .u64 k, .int .u64 m] w fun e w'=>e= .returned (.int .u64 (doP true 32 a b k m))∧w=w':=by
 have E:IntKind.u64.wrap ((a:Int)*b)=((doP true 32 a b k m:Nat):Int):=by rw [←Int.natCast_mul];exact wrap64_nat (a*b)
 have HE:=Lib.hid E
 clear E
 go_enter func145,ntmps145
 go_wp2_with fail
 go_ret
 exact ⟨congrArg (fun z=>Ending.returned (Value.int .u64 z)) HE.out,rfl⟩
theorem do64_40(a b k m:Nat)(ha:a<18446744073709551616)(hb:b<18446744073709551616)(hk:k<64)(w:World):
  Calls prog 145 #[.int .u8 64, .int .u64 a, .int .u64 b, .int .u64 k, .int .u64 m] w fun e w'=>e= .returned (.int .u64 (doP true 64 a b k m))∧w=w':=by
 have E:bits .or .u64 (a:Int) b=((doP true 64 a b k m:Nat):Int):=(bits64_nat a b ha hb).2
 have HE:=Lib.hid E
 clear E
 go_enter func145,ntmps145
 go_wp2_with fail
 go_ret
 exact ⟨congrArg (fun z=>Ending.returned (Value.int .u64 z)) HE.out,rfl⟩
theorem do64_50(a b k m:Nat)(ha:a<18446744073709551616)(hb:b<18446744073709551616)(hk:k<64)(w:World):
  Calls prog 145 #[.int .u8 80, .int .u64 a, .int .u64 b, .int .u64 k, .int .u64 m] w fun e w'=>e= .returned (.int .u64 (doP true 80 a b k m))∧w=w':=by
 have E:bits .and .u64 (a:Int) b=((doP true 80 a b k m:Nat):Int):=(bits64_nat a b ha hb).1
 have HE:=Lib.hid E
 clear E
 go_enter func145,ntmps145
 go_wp2_with fail
 go_ret
 exact ⟨congrArg (fun z=>Ending.returned (Value.int .u64 z)) HE.out,rfl⟩
theorem do64_a0(a b k m:Nat)(ha:a<18446744073709551616)(hb:b<18446744073709551616)(hk:k<64)(w:World):
  Calls prog 145 #[.int .u8 160, .int .u64 a, .int .u64 b, .int .u64 k, .int .u64 m] w fun e w'=>e= .returned (.int .u64 (doP true 160 a b k m))∧w=w':=by
 have E:bits .xor .u64 (a:Int) b=((doP true 160 a b k m:Nat):Int):=bits_xor_u64_nat a b ha hb
 have HE:=Lib.hid E
 clear E
 go_enter func145,ntmps145
 go_wp2_with fail
 go_ret
 exact ⟨congrArg (fun z=>Ending.returned (Value.int .u64 z)) HE.out,rfl⟩
theorem do64_60(a b k m:Nat)(ha:a<18446744073709551616)(hb:b<18446744073709551616)(hk:k<64)(w:World):
  Calls prog 145 #[.int .u8 96, .int .u64 a, .int .u64 b, .int .u64 k, .int .u64 m] w fun e w'=>e= .returned (.int .u64 (doP true 96 a b k m))∧w=w':=by
 have E:IntKind.u64.wrap ((a:Int)*2^k)=((doP true 96 a b k m:Nat):Int):=by rw [pow_cast];exact wrap64_nat _
 have HE:=Lib.hid E
 clear E
 go_enter func145,ntmps145
 go_wp2_with fail
 go_ret
 exact ⟨congrArg (fun z=>Ending.returned (Value.int .u64 z)) HE.out,rfl⟩
theorem do64_70(a b k m:Nat)(ha:a<18446744073709551616)(hb:b<18446744073709551616)(hk:k<64)(w:World):
  Calls prog 145 #[.int .u8 112, .int .u64 a, .int .u64 b, .int .u64 k, .int .u64 m] w fun e w'=>e= .returned (.int .u64 (doP true 112 a b k m))∧w=w':=by
 have E:(a:Int)/2^k=((doP true 112 a b k m:Nat):Int):=div_cast a k
 have HE:=Lib.hid E
 clear E
 go_enter func145,ntmps145
 go_wp2_with fail
 go_ret
 exact ⟨congrArg (fun z=>Ending.returned (Value.int .u64 z)) HE.out,rfl⟩
theorem do64_c0(a b k m:Nat)(ha:a<18446744073709551616)(hb:b<18446744073709551616)(hk:k<64)(w:World):
  Calls prog 145 #[.int .u8 192, .int .u64 a, .int .u64 b, .int .u64 k, .int .u64 m] w fun e w'=>e= .returned (.int .u64 (doP true 192 a b k m))∧w=w':=by
 have E:(m:Int)=((doP true 192 a b k m:Nat):Int):=rfl
 have HE:=Lib.hid E
 clear E
 go_enter func145,ntmps145
 go_wp2_with fail
 go_ret
 exact ⟨congrArg (fun z=>Ending.returned (Value.int .u64 z)) HE.out,rfl⟩
theorem do64_b0(a b k m:Nat)(ha:a<18446744073709551616)(hb:b<18446744073709551616)(hk:k<64)(w:World):
  Calls prog 145 #[.int .u8 176, .int .u64 a, .int .u64 b, .int .u64 k, .int .u64 m] w fun e w'=>e= .returned (.int .u64 (doP true 176 a b k m))∧w=w':=by
 have E:(b:Int)=((doP true 176 a b k m:Nat):Int):=rfl
 have HE:=Lib.hid E
 clear E
 go_enter func145,ntmps145
 go_wp2_with fail
 go_ret
 exact ⟨congrArg (fun z=>Ending.returned (Value.int .u64 z)) HE.out,rfl⟩
theorem do64_any(op a b k m:Nat)(ho:op∈opsL)(ha:a<18446744073709551616)(hb:b<18446744073709551616)(hk:k<64)(w:World):
  Calls prog 145 #[.int .u8 op, .int .u64 a, .int .u64 b, .int .u64 k, .int .u64 m] w fun e w'=>e= .returned (.int .u64 (doP true op a b k m))∧w=w':=by
 unfold opsL at ho
 simp only [List.mem_cons,List.not_mem_nil,or_false] at ho
 rcases ho with rfl|rfl|rfl|rfl|rfl|rfl|rfl|rfl|rfl|rfl
 ·exact do64_00 a b k m ha hb hk w
 ·exact do64_10 a b k m ha hb hk w
 ·exact do64_20 a b k m ha hb hk w
 ·exact do64_40 a b k m ha hb hk w
 ·exact do64_50 a b k m ha hb hk w
 ·exact do64_a0 a b k m ha hb hk w
 ·exact do64_60 a b k m ha hb hk w
 ·exact do64_70 a b k m ha hb hk w
 ·exact do64_c0 a b k m ha hb hk w
 ·exact do64_b0 a b k m ha hb hk w
theorem do32_00(a b k m:Nat)(ha:a<4294967296)(hb:b<4294967296)(hk:k<32)(w:World):
  Calls prog 146 #[.int .u8 0, .int .u32 a, .int .u32 b, .int .u64 k, .int .u32 m] w fun e w'=>e= .returned (.int .u32 (doP false 0 a b k m))∧w=w':=by
 have E:((a:Int)+b)%4294967296=((doP false 0 a b k m:Nat):Int):=by show _=(((a+b)%4294967296:Nat):Int);omega
 have HE:=Lib.hid E
 clear E
 go_enter func146,ntmps146
 go_wp2_with fail
 go_ret
 exact ⟨congrArg (fun z=>Ending.returned (Value.int .u32 z)) HE.out,rfl⟩
theorem do32_10(a b k m:Nat)(ha:a<4294967296)(hb:b<4294967296)(hk:k<32)(w:World):
  Calls prog 146 #[.int .u8 16, .int .u32 a, .int .u32 b, .int .u64 k, .int .u32 m] w fun e w'=>e= .returned (.int .u32 (doP false 16 a b k m))∧w=w':=by
 have E:((a:Int)-b)%4294967296=((doP false 16 a b k m:Nat):Int):=sub32_nat a b hb
 have HE:=Lib.hid E
 clear E
 go_enter func146,ntmps146
 go_wp2_with fail
 go_ret
 exact ⟨congrArg (fun z=>Ending.returned (Value.int .u32 z)) HE.out,rfl⟩
theorem do32_20(a b k m:Nat)(ha:a<4294967296)(hb:b<4294967296)(hk:k<32)(w:World):
  Calls prog 146 #[.int .u8 32, .int .u32 a, .int .u32 b, .int .u64 k, .int .u32 m] w fun e w'=>e= .returned (.int .u32 (doP false 32 a b k m))∧w=w':=by
 have E:((a:Int)*b)%4294967296=((doP false 32 a b k m:Nat):Int):=by rw [←Int.natCast_mul];show _=((a*b%4294967296:Nat):Int);omega
 have HE:=Lib.hid E
 clear E
 go_enter func146,ntmps146
 go_wp2_with fail
 go_ret
 exact ⟨congrArg (fun z=>Ending.returned (Value.int .u32 z)) HE.out,rfl⟩
theorem do32_40(a b k m:Nat)(ha:a<4294967296)(hb:b<4294967296)(hk:k<32)(w:World):
  Calls prog 146 #[.int .u8 64, .int .u32 a, .int .u32 b, .int .u64 k, .int .u32 m] w fun e w'=>e= .returned (.int .u32 (doP false 64 a b k m))∧w=w':=by
 have E:bits .or .u32 (a:Int) b=((doP false 64 a b k m:Nat):Int):=(bits32_nat a b ha hb).2
 have HE:=Lib.hid E
 clear E
 go_enter func146,ntmps146
 go_wp2_with fail
 go_ret
 exact ⟨congrArg (fun z=>Ending.returned (Value.int .u32 z)) HE.out,rfl⟩
theorem do32_50(a b k m:Nat)(ha:a<4294967296)(hb:b<4294967296)(hk:k<32)(w:World):
  Calls prog 146 #[.int .u8 80, .int .u32 a, .int .u32 b, .int .u64 k, .int .u32 m] w fun e w'=>e= .returned (.int .u32 (doP false 80 a b k m))∧w=w':=by
 have E:bits .and .u32 (a:Int) b=((doP false 80 a b k m:Nat):Int):=(bits32_nat a b ha hb).1
 have HE:=Lib.hid E
 clear E
 go_enter func146,ntmps146
 go_wp2_with fail
 go_ret
 exact ⟨congrArg (fun z=>Ending.returned (Value.int .u32 z)) HE.out,rfl⟩
theorem do32_a0(a b k m:Nat)(ha:a<4294967296)(hb:b<4294967296)(hk:k<32)(w:World):
  Calls prog 146 #[.int .u8 160, .int .u32 a, .int .u32 b, .int .u64 k, .int .u32 m] w fun e w'=>e= .returned (.int .u32 (doP false 160 a b k m))∧w=w':=by
 have E:bits .xor .u32 (a:Int) b=((doP false 160 a b k m:Nat):Int):=xor32_nat a b ha hb
 have HE:=Lib.hid E
 clear E
 go_enter func146,ntmps146
 go_wp2_with fail
 go_ret
 exact ⟨congrArg (fun z=>Ending.returned (Value.int .u32 z)) HE.out,rfl⟩
theorem do32_60(a b k m:Nat)(ha:a<4294967296)(hb:b<4294967296)(hk:k<32)(w:World):
  Calls prog 146 #[.int .u8 96, .int .u32 a, .int .u32 b, .int .u64 k, .int .u32 m] w fun e w'=>e= .returned (.int .u32 (doP false 96 a b k m))∧w=w':=by
 have E:((a:Int)*2^k)%4294967296=((doP false 96 a b k m:Nat):Int):=by rw [pow_cast];show _=((a*2^k%4294967296:Nat):Int);omega
 have HE:=Lib.hid E
 clear E
 go_enter func146,ntmps146
 go_wp2_with fail
 go_ret
 exact ⟨congrArg (fun z=>Ending.returned (Value.int .u32 z)) HE.out,rfl⟩
theorem do32_70(a b k m:Nat)(ha:a<4294967296)(hb:b<4294967296)(hk:k<32)(w:World):
  Calls prog 146 #[.int .u8 112, .int .u32 a, .int .u32 b, .int .u64 k, .int .u32 m] w fun e w'=>e= .returned (.int .u32 (doP false 112 a b k m))∧w=w':=by
 have E:(a:Int)/2^k=((doP false 112 a b k m:Nat):Int):=div_cast a k
 have HE:=Lib.hid E
 clear E
 go_enter func146,ntmps146
 go_wp2_with fail
 go_ret
 exact ⟨congrArg (fun z=>Ending.returned (Value.int .u32 z)) HE.out,rfl⟩
theorem do32_c0(a b k m:Nat)(ha:a<4294967296)(hb:b<4294967296)(hk:k<32)(w:World):
  Calls prog 146 #[.int .u8 192, .int .u32 a, .int .u32 b, .int .u64 k, .int .u32 m] w fun e w'=>e= .returned (.int .u32 (doP false 192 a b k m))∧w=w':=by
 have E:(m:Int)=((doP false 192 a b k m:Nat):Int):=rfl
 have HE:=Lib.hid E
 clear E
 go_enter func146,ntmps146
 go_wp2_with fail
 go_ret
 exact ⟨congrArg (fun z=>Ending.returned (Value.int .u32 z)) HE.out,rfl⟩
theorem do32_b0(a b k m:Nat)(ha:a<4294967296)(hb:b<4294967296)(hk:k<32)(w:World):
  Calls prog 146 #[.int .u8 176, .int .u32 a, .int .u32 b, .int .u64 k, .int .u32 m] w fun e w'=>e= .returned (.int .u32 (doP false 176 a b k m))∧w=w':=by
 have E:(b:Int)=((doP false 176 a b k m:Nat):Int):=rfl
 have HE:=Lib.hid E
 clear E
 go_enter func146,ntmps146
 go_wp2_with fail
 go_ret
 exact ⟨congrArg (fun z=>Ending.returned (Value.int .u32 z)) HE.out,rfl⟩
theorem do32_any(op a b k m:Nat)(ho:op∈opsL)(ha:a<4294967296)(hb:b<4294967296)(hk:k<32)(w:World):
  Calls prog 146 #[.int .u8 op, .int .u32 a, .int .u32 b, .int .u64 k, .int .u32 m] w fun e w'=>e= .returned (.int .u32 (doP false op a b k m))∧w=w':=by
 unfold opsL at ho
 simp only [List.mem_cons,List.not_mem_nil,or_false] at ho
 rcases ho with rfl|rfl|rfl|rfl|rfl|rfl|rfl|rfl|rfl|rfl
 ·exact do32_00 a b k m ha hb hk w
 ·exact do32_10 a b k m ha hb hk w
 ·exact do32_20 a b k m ha hb hk w
 ·exact do32_40 a b k m ha hb hk w
 ·exact do32_50 a b k m ha hb hk w
 ·exact do32_a0 a b k m ha hb hk w
 ·exact do32_60 a b k m ha hb hk w
 ·exact do32_70 a b k m ha hb hk w
 ·exact do32_c0 a b k m ha hb hk w
 ·exact do32_b0 a b k m ha hb hk w
theorem sar_cast(a k:Nat)(ha:a<18446744073709551616):IntKind.u64.wrap (wrap64 (a:Int)/2^k)=((sarN true a k:Nat):Int):=by
 rw [IntKind.wrap_u64]
 unfold sarN wrap64
 rw [show wordN true=18446744073709551616 from rfl]
 by_cases h:2*a<18446744073709551616
 ·rw [if_pos h,show ((a:Int)+9223372036854775808)%18446744073709551616-9223372036854775808=(a:Int) by omega,div_cast]
  have:=Nat.div_le_self a (2^k)
  generalize a/2^k=q at*
  omega
 ·rw [if_neg h,show ((a:Int)+9223372036854775808)%18446744073709551616-9223372036854775808=(a:Int)-18446744073709551616 by omega,show ((2:Int)^k)=((2^k:Nat):Int) by push_cast;rfl]
  have h1:=Int.emod_nonneg (((a:Int)-18446744073709551616)/((2^k:Nat):Int)) (show (18446744073709551616:Int)≠0 by decide)
  exact (Int.toNat_of_nonneg h1).symm
theorem sar_cast32(a k:Nat):(wrap32 (a:Int)/2^k)%4294967296=((sarN false (a%4294967296) k:Nat):Int):=by
 unfold sarN wrap32
 rw [show wordN false=4294967296 from rfl]
 by_cases h:2*(a%4294967296)<4294967296
 ·rw [if_pos h,show ((a:Int)+2147483648)%4294967296-2147483648=((a%4294967296:Nat):Int) by omega,div_cast]
  have:=Nat.div_le_self (a%4294967296) (2^k)
  have h2:=Nat.mod_lt a (show 0<4294967296 by decide)
  generalize a%4294967296/2^k=q at*
  omega
 ·rw [if_neg h,show ((a:Int)+2147483648)%4294967296-2147483648=((a%4294967296:Nat):Int)-4294967296 by omega,show ((2:Int)^k)=((2^k:Nat):Int) by push_cast;rfl]
  have h1:=Int.emod_nonneg ((((a%4294967296:Nat):Int)-4294967296)/((2^k:Nat):Int)) (show (4294967296:Int)≠0 by decide)
  exact (Int.toNat_of_nonneg h1).symm
theorem Do_any(op:Nat)(wide:Bool)(a b:Nat)(ho:op∈opsL)(ha:a<18446744073709551616)(hb:b<18446744073709551616)(w:World):
  Calls prog 117 #[.int .u8 op, .bool wide, .int .u64 a, .int .u64 b] w fun e w'=>e= .returned (.int .u64 (doM op wide a b))∧w=w':=by
 cases wide with
 |true=>
  have H:=do64_any op a b (b%64) (sarN true a (b%64)) ho ha hb (by omega) w
  rw [←sar_cast a _ ha] at H
  have e:doM op true a b=doP true op a b (b%64) (sarN true a (b%64)):=by
   rw [doM_doP op true a b ho,show wordN true=18446744073709551616 from rfl,Nat.mod_eq_of_lt ha,Nat.mod_eq_of_lt hb,show bitsN true=64 from rfl]
  rw [e]
  have H:=Lib.hid H
  clear ho e
  have f:(((b%64:Nat):Int))=(b:Int)%64:=by omega
  rw [f] at H
  go_enter func117,ntmps117
  go_wp2_with (go_at_call 145;(with_reducible refine (H.out).mono ?_);rintro e w' ⟨rfl,rfl⟩)
  go_ret
  exact ⟨rfl,rfl⟩
 |false=>
  have H:=do32_any op (a%4294967296) (b%4294967296) (b%32) (sarN false (a%4294967296) (b%32)) ho (by omega) (by omega) (by omega) w
  rw [←sar_cast32 a _] at H
  have e:doM op false a b=doP false op (a%4294967296) (b%4294967296) (b%32) (sarN false (a%4294967296) (b%32)):=by
   rw [doM_doP op false a b ho,show wordN false=4294967296 from rfl,show bitsN false=32 from rfl,show b%4294967296%32=b%32 by omega]
  rw [e]
  have H:=Lib.hid H
  have hlt:doP false op (a%4294967296) (b%4294967296) (b%32) (sarN false (a%4294967296) (b%32))<18446744073709551616:=by rw [←e];exact Nat.lt_of_lt_of_le (doM_lt op false a b) (word_le false)
  clear ho e
  have f:(((b%32:Nat):Int))=(b:Int)%32:=by omega
  have f2:(((b%4294967296:Nat):Int))=(b:Int)%4294967296:=by omega
  have f3:(((a%4294967296:Nat):Int))=(a:Int)%4294967296:=by omega
  rw [f,f2,f3] at H
  generalize doP false op (a%4294967296) (b%4294967296) (b%32) (sarN false (a%4294967296) (b%32))=V at*
  have fv:IntKind.u64.wrap (V:Int)=V:=IntWalk.u64_in _ (by omega)
  go_enter func117,ntmps117
  go_wp2_with (go_at_call 146;(with_reducible refine (H.out).mono ?_);rintro e w' ⟨rfl,rfl⟩)
  go_ret
  exact ⟨rfl,rfl⟩
end Go.Proofs.YtfmcmfiebehhiaaGreatDoor

