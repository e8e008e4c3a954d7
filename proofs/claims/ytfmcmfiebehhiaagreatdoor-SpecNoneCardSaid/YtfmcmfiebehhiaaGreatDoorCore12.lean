/- maps: what New and Copy hold while they gather the tables. No condition. maps: New. maps: New at any maps; copies of tables. -/
import Derived.Test.YtfmcmfiebehhiaaGreatDoorCore11
set_option linter.all false
set_option linter.unusedVariables false
set_option linter.unusedSimpArgs false
set_option maxRecDepth 100000
set_option maxHeartbeats 1000000
namespace Go.Proofs.YtfmcmfiebehhiaaGreatDoor
open Go.Proofs.Tryz
open Go.RowKit
theorem Tryz.info_str:(prog.info? 9).map (fun i=>(i.zero,i.size,i.bytes))=some (some (.string ⟨#[]⟩),1,16):=by kernel_rfl
theorem Tryz.info_table:(prog.info? 150).map (fun i=>(i.zero,i.size,i.bytes))=some (some .nilIface,1,16):=by kernel_rfl
theorem make_hash(n:Nat)(hn:n≤1000000)(w:World):(Instr.makeSlice 152 (.int .i64 n) (.int .i64 n)).run prog w= .ok (.slice (some ⟨w.heap.size,0,none⟩) n n) (w.alloc (.cells (strs (List.replicate n [])).toArray 9)):=by
 obtain ⟨i0,hi,hz0,hz1,hz2⟩:=info_parts Tryz.info_str
 have h:=run_make (P:=prog) w 152 9 i0 (.string ⟨#[]⟩) underlying152 hi hz0 .i64 .i64 n n (by omega) (by omega) (by rw [hz2];omega) (by omega)
 rw [h,hz1]
 clear h hn
 simp only [Int.toNat_natCast,Nat.mul_one]
 have e:∀A B:Array Value,A=B→(Result.ok (Value.slice (some ⟨w.heap.size,0,none⟩) n n) (w.alloc (.cells A 9)):Result Value)= .ok (.slice (some ⟨w.heap.size,0,none⟩) n n) (w.alloc (.cells B 9)):=fun A B h=>by rw [h]
 refine e _ _ ?_
 apply Array.ext'
 simp [madeCells,strs,Value.cells,Nat.mod_one]
 apply List.ext_getElem?
 intro j
 simp only [List.getElem?_replicate]
 by_cases hj:j<n<;>simp [hj]
theorem MapsIn.to{S w w'}{v:Value}{l}(h:MapsIn w v l)(hf:Fr S w w')(hn:∀k,v.ownBlock=some k→¬S k):MapsIn w' v l:=by
 rcases h with h|⟨g,off,cap,rfl,hc⟩
 ·exact .inl h
 ·exact .inr ⟨g,off,cap,rfl,hf.cells hc (hn _ rfl)⟩
def Heads(v:Value):Prop:=∀a n c,v= .slice (some a) n c→a=⟨a.block,0,none⟩
structure NewI(w:World)(b mb:Nat)(lv:Value)(ds:List MapD)(ts:List Tab)(k:Nat)(tabs:List HTab)(v:Value)(wr:World):Prop where
 fr:Fr No w wr
 lo:w.heap.size≤b
 c0:wr.cell? ⟨b,0,none⟩=some (.bool true)
 c1:wr.cell? ⟨b,1,none⟩=some lv
 c2:wr.cell? ⟨b,2,none⟩=some v
 c3:wr.cell? ⟨b,3,none⟩=some (.pointer (some ⟨mb,0,none⟩))
 free:wr.frozen? ⟨b,2,none⟩=false
 maps:MapsIn wr lv ds
 eqt:tabs.map (·.t)=ts.take k
 own:wr.ownsRow w.heap.size 150 1 v k (tabs.map HTab.cell)
 ok:∀x∈tabs,x.t.ok
 here:∀x∈tabs,x.t.d.kind=2→x.here wr∧w.heap.size≤x.h∧x.h≠b∧lv.ownBlock≠some x.h
 apart:tabs.Pairwise fun x y=>x.t.d.kind=2→y.t.d.kind=2→x.h≠y.h
 ne:∀g,v.ownBlock=some g→g≠b∧(∀x∈tabs,x.t.d.kind=2→g≠x.h)∧lv.ownBlock≠some g
 nel:lv.ownBlock≠some b
theorem NewI.lt{w wr:World}{b mb k lv v ds ts tabs}(h:NewI w b mb lv ds ts k tabs v wr):b<wr.heap.size:=World.block_lt_of_cell? wr _ h.c0
theorem NewI.to{w wr W b mb k lv v ds ts tabs}(h:NewI w b mb lv ds ts k tabs v wr)(hf:Fr No wr W):NewI w b mb lv ds ts k tabs v W where
 fr:=h.fr.trans hf
 lo:=h.lo
 c0:=hf.cell h.c0 id
 c1:=hf.cell h.c1 id
 c2:=hf.cell h.c2 id
 c3:=hf.cell h.c3 id
 free:=by rw [hf.frozen h.c2 id];exact h.free
 maps:=h.maps.fr hf
 eqt:=h.eqt
 own:=ownsRow_fr h.own hf (fun _ _=>id)
 ok:=h.ok
 here:=fun x hx h2=>⟨(h.here x hx h2).1.fr hf id (by have:=(h.ok x hx).bounds;omega),(h.here x hx h2).2⟩
 apart:=h.apart
 ne:=h.ne
 nel:=h.nel
theorem MapsIn.lt{w:World}{v:Value}{l:List MapD}(h:MapsIn w v l)(h0:0<l.length){g}(hg:v.ownBlock=some g):g<w.heap.size:=by
 rcases h with ⟨rfl,_⟩|⟨g',off,cap,rfl,hc⟩
 ·simp at h0
 ·simp [Value.ownBlock] at hg
  subst hg
  exact World.block_lt_of_cell? w _ (hc (0*4+0) _ (mflat_get l 0 0 h0 (by omega)))
theorem NewI.step{w wr W w1:World}{b mb k g cap}{lv v:Value}{ds:List MapD}{ts}{tabs:List HTab}(h:NewI w b mb lv ds ts k tabs v wr)(x:HTab)(hx:ts[k]? =some x.t)(hok:x.t.ok)(h0:0<ds.length)(hW:Fr No wr W)(hh:x.t.d.kind=2→x.here W∧wr.heap.size≤x.h∧x.h<W.heap.size)(own:w1.ownsRow w.heap.size 150 1 (.slice (some ⟨g,0,none⟩) (k+1) cap) (k+1) (tabs.map HTab.cell++ [x.cell]))(hf:Fr (OwnOf v) W w1)(hg:v.ownBlock=some g∨W.heap.size≤g):
  NewI w b mb lv ds ts (k+1) (tabs++ [x]) (.slice (some ⟨g,0,none⟩) (k+1) cap) (w1.setCell ⟨b,2,none⟩ (.slice (some ⟨g,0,none⟩) (k+1) cap)):=by
 have hs:=h.to hW
 have hbW:=hs.lt
 have hsz:=hW.size
 have hblt:=h.lt
 have hvb:∀q,OwnOf v q→q≠b:=fun q hq=>(h.ne q hq).1
 have hgb:g≠b:=by
  rcases hg with hg|hg
  ·exact (h.ne g hg).1
  ·omega
 have hlvlt:∀q,lv.ownBlock=some q→q<wr.heap.size:=fun q hq=>h.maps.lt h0 hq
 have hgl:lv.ownBlock≠some g:=by
  rcases hg with hg|hg
  ·exact (h.ne g hg).2.2
  ·intro e;have:=hlvlt g e;omega
 have hS:Fr (fun q=>OwnOf v q∨q=b) W (w1.setCell ⟨b,2,none⟩ (.slice (some ⟨g,0,none⟩) (k+1) cap)):=(hf.mono (fun _ _ hk=> .inl hk):Fr (fun q=>OwnOf v q∨q=b) W w1).setCell (p:=⟨b,2,none⟩) (.inr (.inr rfl)) _
 have hnb:¬OwnOf v b:=fun hb=>hvb b hb rfl
 have hhere:∀y:HTab,y.here W→y.t.ok→y.h≠b→(¬OwnOf v y.h)→y.here (w1.setCell ⟨b,2,none⟩ (.slice (some ⟨g,0,none⟩) (k+1) cap)):=fun y hy hyo h1 h2=>
  hy.fr hS (fun hq=>hq.elim h2 h1) (by have:=hyo.bounds;omega)
 have hltb:∀y∈tabs,y.t.d.kind=2→y.h<wr.heap.size:=fun y hy h2=>(h.here y hy h2).1.lt (by have:=(h.ok y hy).bounds;omega)
 have hxv:x.t.d.kind=2→¬OwnOf v x.h:=fun h2 hq=>by
  have:=(h.own.lt x.h hq).2
  have:=(hh h2).2.1
  omega
 refine ⟨?_,h.lo,?_,?_,?_,?_,?_,?_,?_,?_,?_,?_,?_,?_,h.nel⟩
 ·have a1:Fr (From w) w w1:=(h.fr.trans hW).any.trans (hf.mono fun q _ hq=>by have:=(h.own.lt q hq).1;exact this)
  exact (a1.setCell (p:=⟨b,2,none⟩) (.inl h.lo) _).ours
 ·rw [World.cell?_setCell_other _ _ _ _ (by simp)]
  exact hf.cell hs.c0 hnb
 ·rw [World.cell?_setCell_other _ _ _ _ (by simp)]
  exact hf.cell hs.c1 hnb
 ·have:=hf.cell hs.c2 hnb
  exact World.cell?_setCell_same _ _ _ (by rw [this])
 ·rw [World.cell?_setCell_other _ _ _ _ (by simp)]
  exact hf.cell hs.c3 hnb
 ·rw [World.frozen?_setCell,hf.frozen hs.c2 hnb]
  exact hs.free
 ·exact hs.maps.to hS (fun q hq hor=>hor.elim (fun ho=>(h.ne q ho).2.2 hq) (fun e=>h.nel (e ▸ hq)))
 ·rw [List.map_append,h.eqt,List.take_add_one,hx];rfl
 ·rw [List.map_append]
  refine ownsRow_fr own ((Fr.refl (fun q=>q=b) w1).setCell (p:=⟨b,2,none⟩) (.inr rfl) _) (fun q hq e=> ?_)
  simp [Value.ownBlock] at hq
  exact hgb (hq.trans e)
 ·intro y hy
  rcases List.mem_append.1 hy with hy|hy
  ·exact h.ok y hy
  ·rw [List.mem_singleton.1 hy];exact hok
 ·intro y hy h2
  rcases List.mem_append.1 hy with hy|hy
  ·obtain ⟨a1,a2,a3,a4⟩:=hs.here y hy h2
   exact ⟨hhere y a1 (h.ok y hy) a3 (fun hq=>(h.ne _ hq).2.1 y hy h2 rfl),a2,a3,a4⟩
  ·obtain rfl:=List.mem_singleton.1 hy
   obtain ⟨a1,a2,a3⟩:=hh h2
   have:=h.fr.size
   exact ⟨hhere y a1 hok (by omega) (hxv h2),by omega,by omega,fun e=>by have:=hlvlt _ e;omega⟩
 ·rw [List.pairwise_append]
  refine ⟨h.apart,by simp,fun y hy z hz hy2 hz2=> ?_⟩
  obtain rfl:=List.mem_singleton.1 hz
  have:=hltb y hy hy2
  have:=(hh hz2).2.1
  omega
 ·intro q hq
  simp [Value.ownBlock] at hq
  subst hq
  refine ⟨hgb,fun y hy h2=> ?_,hgl⟩
  rcases List.mem_append.1 hy with hy|hy
  ·rcases hg with hg|hg
   ·exact (h.ne g hg).2.1 y hy h2
   ·have:=hltb y hy h2;omega
  ·obtain rfl:=List.mem_singleton.1 hy
   rcases hg with hg|hg
   ·exact fun e=>hxv h2 (e ▸ hg)
   ·have:=(hh h2).2.2;omega
def MadeMaps(w:World)(b mb:Nat)(S:List Tab)(R:Nat→Prop)(w':World):Prop:=
 ∃A H,MapsAt w' b mb S A H∧(∀k,A k→(w.heap.size≤k∧k<w'.heap.size)∨R k)∧(∀k,H k→w.heap.size≤k∧k<w'.heap.size)
theorem NewI.done{w wr:World}{b mb}{lv v:Value}{ds:List MapD}{ts:List Tab}{tabs:List HTab}{R}(h:NewI w b mb lv ds ts ds.length tabs v wr)(hts:ts.map (·.d)=ds)(h4:ds.length≤4)(hl:∀g,lv.ownBlock=some g→(w.heap.size≤g∧g<wr.heap.size)∨R g)(hR:∀k,R k→k<w.heap.size)(hlh:Heads lv):MadeMaps w b mb ts R wr:=by
 have hb:=h.lt
 have hlen:ts.length=ds.length:=by rw [←hts];simp
 have htabs:tabs.map (·.t)=ts:=by rw [h.eqt,List.take_of_length_le (by omega)]
 have htl:tabs.length=ds.length:=by rw [←hlen,←htabs];simp
 have hmaps:tabs.map (fun x=>x.t.d)=ds:=by rw [←hts,←htabs,List.map_map];rfl
 refine ⟨fun k=>k=b∨lv.ownBlock=some k∨v.ownBlock=some k,fun k=>∃x∈tabs,x.t.d.kind=2∧k=x.h,⟨tabs,htabs,h.c0,h.c3,⟨lv,v,h.c1,h.c2,?_⟩,h.ok,fun x hx h2=>⟨(h.here x hx h2).1,x,hx,h2,rfl⟩,h.apart, .inl rfl,by omega,?_⟩,?_,?_⟩
 ·have hm:=h.maps
  rcases Nat.eq_zero_or_pos ds.length with h0|h0
  ·have hd:=List.eq_nil_of_length_eq_zero h0
   have ht0:tabs= []:=List.eq_nil_of_length_eq_zero (by omega)
   obtain ⟨a,c,hv⟩:=hm.form
   rw [h0] at hv
   have ho:=h.own
   rw [h0] at ho
   rcases ho.2 with ⟨rfl,_⟩|⟨g,cap,cur,rfl,_⟩
   ·exact .inl ⟨ht0,a,c,_,_,hv,rfl⟩
   ·exact .inl ⟨ht0,a,c,_,_,hv,rfl⟩
  ·obtain ⟨gt,ct,hv,_,hcells⟩:=cells_of_owns h.own h0
   rcases hm with ⟨hd,_⟩|⟨gl,off,cl,hlv,hc⟩
   ·rw [hd] at h0;simp at h0
   ·have:=hlh _ _ _ hlv
    simp at this
    subst this
    exact .inr ⟨gl,cl,gt,ct,by rw [hlv,htl],by rw [hv,htl],by rw [hmaps];exact hc,hcells, .inr (.inl (by rw [hlv];rfl)), .inr (.inr (by rw [hv];rfl))⟩
 ·rintro k hk ⟨x,hx,h2,rfl⟩
  rcases hk with hk|hk|hk
  ·exact (h.here x hx h2).2.2.1 hk
  ·exact (h.here x hx h2).2.2.2 hk
  ·exact (h.ne _ hk).2.1 x hx h2 rfl
 ·rintro k (rfl|hk|hk)
  ·exact .inl ⟨h.lo,hb⟩
  ·exact hl k hk
  ·exact .inl (h.own.lt k hk)
 ·rintro k ⟨x,hx,h2,rfl⟩
  exact ⟨(h.here x hx h2).2.1,(h.here x hx h2).1.lt (by have:=(h.ok x hx).bounds;omega)⟩
theorem mnew_bad(lv mp w)(hmay:Calls prog 56 #[lv] w fun e w'=>e= .returned (.bool false)∧Fr No w w'):
  Calls prog 28 #[lv,mp] w fun e w'=>e= .returned (.tuple #[.pointer none, .int .i64 2])∧Fr No w w':=by
 have H:=Lib.hid hmay
 clear hmay
 go_enter func28,ntmps28
 go_wp2_with (go_at_call 56;(with_reducible refine (H.out).mono ?_);rintro e w' ⟨rfl,hf⟩)
 go_ret2
 exact ⟨rfl,hf⟩
theorem mnew_hold(lv mp err w)(hmay:Calls prog 56 #[lv] w fun e w'=>e= .returned (.bool true)∧Fr No w w')(hhold:∀W,Fr No w W→Calls prog 62 #[lv,mp] W fun e w'=>e= .returned (.int .i64 err)∧Fr No W w')(hne:(err !=0)=true):
  Calls prog 28 #[lv,mp] w fun e w'=>e= .returned (.tuple #[.pointer none, .int .i64 err])∧Fr No w w':=by
 have H:=Lib.hid hmay
 have HH:=Lib.hid hhold
 clear hmay hhold
 go_enter func28,ntmps28
 go_wp2_with fail
 refine (H.out).mono ?_
 rintro e w1 ⟨rfl,hf⟩
 have HF:=Lib.hid hf
 clear hf
 go_wp2_with fail
 refine (HH.out w1 HF.out).mono ?_
 rintro e w2 ⟨rfl,hf2⟩
 go_wp2_with fail
 go_ret2
 exact ⟨rfl,HF.out.trans hf2⟩
def NewMade(w:World)(mb:Nat)(l:List MapD)(e:Ending)(w':World):Prop:=
 ∃b,e= .returned (.tuple #[.pointer (some ⟨b,0,none⟩), .int .i64 0])∧MadeMaps w b mb (l.map Tab.new) (fun _=>False) w'∧Fr No w w'
theorem NewI.step1{w wr w5:World}{b mb k g cap mx:Nat}{lv v:Value}{ds:List MapD}{tabs:List HTab}{Y L:Obj}{d:MapD}(h:NewI w b mb lv ds (ds.map Tab.new) k tabs v wr)(hd:ds[k]? =some d)(hmay:d.may=true)(h1:d.kind=1)(hmx:d.max=mx)
  (own:w5.ownsRow w.heap.size 150 1 (.slice (some ⟨g,0,none⟩) (k+1) cap) (k+1) (tabs.map HTab.cell++ [.iface 148 (.int .i64 mx)])) (hf:((wr.alloc Y).alloc L).grownBy w5 v.ownBlock) (hg:v.ownBlock=some g∨g=wr.heap.size+2):
  ∃tabs' v',NewI w b mb lv ds (ds.map Tab.new) (k+1) tabs' v' (w5.setCell ⟨b,2,none⟩ (.slice (some ⟨g,0,none⟩) (k+1) cap)):=by
 refine ⟨_,_,h.step (x:=⟨Tab.new d,0,0⟩) (by rw [List.getElem?_map,hd];rfl) (Tab.new_ok hmay) (by obtain ⟨hk,_⟩:=List.getElem?_eq_some_iff.1 hd;omega) (((Fr.refl No wr).alloc Y).alloc L) (fun h2=> ?_) ?_ (grown_fr hf) ?_⟩
 ·have:d.kind=2:=h2
  omega
 ·have e:HTab.cell ⟨Tab.new d,0,0⟩= .iface 148 (.int .i64 mx):=by
   unfold HTab.cell
   rw [if_pos (show (Tab.new d).d.kind=1 from h1)]
   show Value.iface 148 (.int .i64 d.max)=_
   rw [hmx]
  rw [e];exact own
 ·rcases hg with hg|rfl
  ·exact .inl hg
  ·exact .inr (by simp)
theorem NewI.step2{w wr w5:World}{b mb k g cap mx:Nat}{lv v:Value}{ds:List MapD}{tabs:List HTab}{Y L:Obj}{d:MapD}(h:NewI w b mb lv ds (ds.map Tab.new) k tabs v wr)(hd:ds[k]? =some d)(hmay:d.may=true)(h2:d.kind=2)(hmx:d.max=mx)
  (own:w5.ownsRow w.heap.size 150 1 (.slice (some ⟨g,0,none⟩) (k+1) cap) (k+1) (tabs.map HTab.cell++ [.iface 152 (.slice (some ⟨wr.heap.size+1,0,none⟩) mx mx)]))
  (hf:(((wr.alloc Y).alloc (.cells (strs (List.replicate mx [])).toArray 9)).alloc L).grownBy w5 v.ownBlock) (hg:v.ownBlock=some g∨g=wr.heap.size+3):
  ∃tabs' v',NewI w b mb lv ds (ds.map Tab.new) (k+1) tabs' v' (w5.setCell ⟨b,2,none⟩ (.slice (some ⟨g,0,none⟩) (k+1) cap)):=by
 have hks:(Tab.new d).ks=List.replicate mx []:=by
  show (if d.kind=1 then arrKeys d.max.toNat else List.replicate d.max.toNat [])=_
  rw [if_neg (by omega),hmx,Int.toNat_natCast]
 have hksl:(Tab.new d).ks.length=mx:=by rw [hks];simp
 refine ⟨_,_,h.step (x:=⟨Tab.new d,wr.heap.size+1,mx⟩) (by rw [List.getElem?_map,hd];rfl) (Tab.new_ok hmay) (by obtain ⟨hk,_⟩:=List.getElem?_eq_some_iff.1 hd;omega) ((((Fr.refl No wr).alloc Y).alloc (.cells (strs (List.replicate mx [])).toArray 9)).alloc L) (fun _=> ?_) ?_ (grown_fr hf) ?_⟩
 ·have hs:(wr.alloc Y).heap.size=wr.heap.size+1:=by simp
  have hcell:CellsAt ((wr.alloc Y).alloc (.cells (strs (List.replicate mx [])).toArray 9)) (wr.heap.size+1) 0 (strs (List.replicate mx [])):=by
   have:=CellsAt.new (wr.alloc Y) (strs (List.replicate mx [])) 9
   rwa [hs] at this
  refine ⟨⟨?_,fun j hj=> ?_,by rw [hksl];exact Nat.le_refl _⟩,by simp,by simp⟩
  ·show CellsAt _ (wr.heap.size+1) 0 (strs (Tab.new d).ks)
   rw [hks]
   exact ((Fr.refl No _).alloc L).cells hcell id
  ·have hj':j<mx:=by rw [←hksl];exact hj
   have hc:=hcell j (.string ⟨#[]⟩) (by rw [strs_get];simp [hj'])
   have hfz:=((Fr.refl No ((wr.alloc Y).alloc (.cells (strs (List.replicate mx [])).toArray 9))).alloc L).frozen hc id
   show World.frozen? _ ⟨wr.heap.size+1,0+j,none⟩=false
   rw [hfz]
   have:=World.frozen?_alloc_new (wr.alloc Y) (strs (List.replicate mx [])).toArray 9 (0+j)
   rwa [hs] at this
 ·have e:HTab.cell ⟨Tab.new d,wr.heap.size+1,mx⟩= .iface 152 (.slice (some ⟨wr.heap.size+1,0,none⟩) mx mx):=by
   unfold HTab.cell
   rw [if_neg (show¬(Tab.new d).d.kind=1 from fun h=>by have:d.kind=1:=h;omega)]
   show Value.iface 152 (.slice (some ⟨wr.heap.size+1,0,none⟩) (Tab.new d).ks.length mx)=_
   rw [hksl]
  rw [e];exact own
 ·rcases hg with hg|rfl
  ·exact .inl hg
  ·exact .inr (by simp)
theorem mnew_walk(g off n cap mb)(l:List MapD)(w:World)(hn:l.length=n)(h1:1≤n)(h4:n≤4)(hc:CellsAt w g off (mflat l))(hmayl:∀x∈l,x.may=true)(hmay:Calls prog 56 #[.slice (some ⟨g,off,none⟩) n cap] w fun e w'=>e= .returned (.bool true)∧Fr No w w')(hhold:∀W,Fr No w W→Calls prog 62 #[.slice (some ⟨g,off,none⟩) n cap, .pointer (some ⟨mb,0,none⟩)] W fun e w'=>e= .returned (.int .i64 0)∧Fr No W w'):
  Calls prog 28 #[.slice (some ⟨g,off,none⟩) n cap, .pointer (some ⟨mb,0,none⟩)] w (NewMade w mb l):=by
 have HC:=Lib.hid hc
 have HN:=Lib.hid hn
 have HM:=Lib.hid hmayl
 have H:=Lib.hid hmay
 have HH:=Lib.hid hhold
 have HCL:Hid (∀W,Fr No w W→Calls prog 30 #[.slice (some ⟨g,off,none⟩) n cap] W (ClonePost n (mflat l) W 4)):=fun W hW=>clone_maps g off n cap (mflat l) W (by rw [mflat_length,hn]) h1 (by omega) (hW.cells hc id) (mflat_one l)
 clear hc hn hmayl hmay hhold
 obtain ⟨i0,hi0,hz0,hz1,hz2⟩:=info_parts Tryz.info_table
 go_enter func28,ntmps28
 go_wp2_with fail
 refine (H.out).mono ?_
 rintro e w1 ⟨rfl,hf⟩
 have HF:=Lib.hid hf
 clear hf
 go_wp2_with fail
 refine (HH.out w1 HF.out).mono ?_
 rintro e w2 ⟨rfl,hf2⟩
 have HF2:=Lib.hid (HF.out.trans hf2)
 clear hf2 HF H HH
 go_wp2_with fail
 refine (HCL.out w2 HF2.out).mono ?_
 rintro e w3 ⟨gl,cl,rfl,hlo,hlt,hcl,hop,hcap,hf3⟩
 have HF3:=Lib.hid (HF2.out.trans hf3)
 have HI0:Hid (NewI w w3.heap.size mb (.slice (some ⟨gl,0,none⟩) n cl) l (l.map Tab.new) 0 [] (.slice none 0 0) (w3.alloc (.cells #[.bool true, .slice (some ⟨gl,0,none⟩) n cl, .slice none 0 0, .pointer (some ⟨mb,0,none⟩)] 147))):=by
  have hfa:Fr No w3 (w3.alloc (.cells #[.bool true, .slice (some ⟨gl,0,none⟩) n cl, .slice none 0 0, .pointer (some ⟨mb,0,none⟩)] 147)):=(Fr.refl _ _).alloc _
  refine ⟨HF3.out.trans hfa,HF3.out.size,?_,?_,?_,?_,World.frozen?_alloc_new _ _ _ _, .inr ⟨gl,0,cl,by rw [HN.out],hfa.cells hcl id⟩,rfl,World.ownsRow_nil _ _ _ _,by simp,by simp,List.Pairwise.nil,by simp [Value.ownBlock],?_⟩
  ·rw [World.cell?_alloc_new];rfl
  ·rw [World.cell?_alloc_new];rfl
  ·rw [World.cell?_alloc_new];rfl
  ·rw [World.cell?_alloc_new];rfl
  ·simp [Value.ownBlock];omega
 have hlo':w.heap.size≤gl:=by have:=HF2.out.size;omega
 have HLO:=Lib.hid hlo'
 have HGL:Hid (gl<w3.heap.size):=hlt
 clear hlo hlt hcl hop hcap hf3 HCL HF2 hlo'
 go_wp2_with fail
 have HSZ3:Hid (w3.heap.size<(w3.alloc (.cells #[.bool true, .slice (some ⟨gl,0,none⟩) n cl, .slice none 0 0, .pointer (some ⟨mb,0,none⟩)] 147)).heap.size):=HI0.out.lt
 have HLB:Hid (gl<w3.heap.size+1):=Nat.lt_succ_of_lt HGL.out
 generalize w3.alloc (.cells #[.bool true, .slice (some ⟨gl,0,none⟩) n cl, .slice none 0 0, .pointer (some ⟨mb,0,none⟩)] 147)=w4 at*
 generalize w3.heap.size=b at*
 go_loopw [27] (fun s wr=>∃k:Nat,k≤n∧s= .int .i64 k∧Hid (∃tabs v,NewI w b mb (.slice (some ⟨gl,0,none⟩) n cl) l (l.map Tab.new) k tabs v wr)) (fun s _=>n-(intOf s).toNat)
 case atStart=>exact ⟨0,Nat.zero_le _,rfl, [],_,HI0.out⟩
 case round=>
  obtain ⟨k,hk,rfl,HI⟩:=hrel
  by_cases hlt:k<n
  ·obtain ⟨x,hx⟩:∃x,l[k]? =some x:=⟨l[k]'(by rw [HN.out];exact hlt),List.getElem?_eq_getElem _⟩
   obtain ⟨tabs,v,hi⟩:=HI.out
   obtain ⟨k0,k1,k2,k3⟩:=map_cells (hi.fr.cells HC.out id) hx
   have hmay:=HM.out x (List.mem_of_getElem? hx)
   have hmi:=(MapD.may_iff x).1 hmay
   obtain ⟨mx,hmx⟩:∃mx:Nat,x.max=mx:=⟨x.max.toNat,by omega⟩
   have hmx16:mx≤16:=by omega
   rw [hmx] at k3
   have hb0:¬b=wr.heap.size:=by have:=hi.lt;omega
   have hb1:¬b=wr.heap.size+1:=by have:=hi.lt;omega
   have hb2:¬b=wr.heap.size+1+1:=by have:=hi.lt;omega
   have c2:=hi.c2
   have c2a:∀Y:Obj,(wr.alloc Y).cell? ⟨b,2,none⟩=some v:=fun Y=>((Fr.refl No wr).alloc Y).cell c2 id
   have c2b:∀Y Z:Obj,((wr.alloc Y).alloc Z).cell? ⟨b,2,none⟩=some v:=fun Y Z=>(((Fr.refl No wr).alloc Y).alloc Z).cell c2 id
   have HOWN:Hid (∀W,Fr No wr W→W.ownsRow w.heap.size 150 1 v k (tabs.map HTab.cell)):=fun W hW=>ownsRow_fr hi.own hW (fun _ _=>id)
   have HQ5:Hid (∀W w5,Fr No wr W→W.grownBy w5 v.ownBlock→w5.cell? ⟨b,2,none⟩=some v∧w5.frozen? ⟨b,2,none⟩=false):=fun W w5 hW hg=>by
    have hs:=hi.to hW
    have hnb:¬OwnOf v b:=fun hb=>(hi.ne b hb).1 rfl
    exact ⟨(grown_fr hg).cell hs.c2 hnb,by rw [(grown_fr hg).frozen hs.c2 hnb];exact hs.free⟩
   have hbase:w.heap.size≤wr.heap.size:=hi.fr.size
   rcases (show x.kind=1∨x.kind=2 by omega) with h1k|h2k
   ·have HST:Hid (∀(Y L:Obj) (w5:World) (g2 cap2:Nat),w5.ownsRow w.heap.size 150 1 (.slice (some ⟨g2,0,none⟩) (k+1) cap2) (k+1) (tabs.map HTab.cell++ [.iface 148 (.int .i64 mx)])→((wr.alloc Y).alloc L).grownBy w5 v.ownBlock→(v.ownBlock=some g2∨g2=wr.heap.size+2)→
      ∃tabs' v',NewI w b mb (.slice (some ⟨gl,0,none⟩) n cl) l (l.map Tab.new) (k+1) tabs' v' (w5.setCell ⟨b,2,none⟩ (.slice (some ⟨g2,0,none⟩) (k+1) cap2))):=fun Y L w5 g2 cap2 a1 a2 a3=>hi.step1 hx hmay h1k hmx a1 a2 a3
    rw [h1k] at k0
    have H1:∀o1:Obj,((wr.alloc o1).alloc (.cells #[.iface 148 (.int .i64 mx)] 150)).heap[wr.heap.size+1]? =some (.cells #[.iface 148 (.int .i64 mx)] 150 (0,0)):=fun o1=>by
     have:=heap_alloc_new (wr.alloc o1) (.cells #[.iface 148 (.int .i64 mx)] 150)
     rw [show (wr.alloc o1).heap.size=wr.heap.size+1 by simp] at this
     exact this
    obtain ⟨kind,key,value,max⟩:=x
    generalize tabs.map HTab.cell=tc at HOWN HST
    simp only at k0 k1 k2 k3
    clear hx hmay hmi hmx HI hi h1k
    go_wp2_with (at_builtin;refine wpList_append_lies _ rfl _ _ 145 rfl w.heap.size 150 i0 _ 1 16 underlying145 hi0 hz0 hz1 hz2 rfl (by decide) v k tc rfl (HOWN.out _ (((Fr.refl _ _).alloc _).alloc _)) ⟨wr.heap.size+1,0,none⟩ 1 1 [.iface 148 (.int .i64 mx)] rfl rfl (World.news_of_block (cs:= #[.iface 148 (.int .i64 mx)]) (t:=150) (fr:=(0,0)) (H1 _)) (by simp [Value.oneCell']) (by omega) (by unfold maxLen;omega) (by omega) (by simp;omega) (wr.heap.size+2) (by simp) ?_;intro g2 cap2 w5 hown hgrow hat hlt2;have q5:=(HQ5.out _ _ (((Fr.refl _ _).alloc _).alloc _) hgrow);have HE:=Lib.hid (HST.out _ _ _ _ _ hown hgrow hat);clear hown hgrow hat hlt2;obtain ⟨q5,q6⟩:=q5)
    go_roundw
    case rel=>exact ⟨k+1,by omega,by go_num,HE.out⟩
    case measure=>simp [intOf]<;>omega
   ·have HST:Hid (∀(Y L:Obj) (w5:World) (g2 cap2:Nat),w5.ownsRow w.heap.size 150 1 (.slice (some ⟨g2,0,none⟩) (k+1) cap2) (k+1) (tabs.map HTab.cell++ [.iface 152 (.slice (some ⟨wr.heap.size+1,0,none⟩) mx mx)])→(((wr.alloc Y).alloc (.cells (strs (List.replicate mx [])).toArray 9)).alloc L).grownBy w5 v.ownBlock→(v.ownBlock=some g2∨g2=wr.heap.size+3)→
      ∃tabs' v',NewI w b mb (.slice (some ⟨gl,0,none⟩) n cl) l (l.map Tab.new) (k+1) tabs' v' (w5.setCell ⟨b,2,none⟩ (.slice (some ⟨g2,0,none⟩) (k+1) cap2))):=fun Y L w5 g2 cap2 a1 a2 a3=>hi.step2 hx hmay h2k hmx a1 a2 a3
    rw [h2k] at k0
    have hmk:∀Y:Obj,(Instr.makeSlice 152 (.int .i64 mx) (.int .i64 mx)).run prog (wr.alloc Y)= .ok (.slice (some ⟨wr.heap.size+1,0,none⟩) mx mx) ((wr.alloc Y).alloc (.cells (strs (List.replicate mx [])).toArray 9)):=fun Y=>by
     have:=make_hash mx (by omega) (wr.alloc Y)
     rwa [show (wr.alloc Y).heap.size=wr.heap.size+1 by simp] at this
    generalize (strs (List.replicate mx [])).toArray=HA at hmk HST
    have H1:∀o1 o2:Obj,(((wr.alloc o1).alloc o2).alloc (.cells #[.iface 152 (.slice (some ⟨wr.heap.size+1,0,none⟩) mx mx)] 150)).heap[wr.heap.size+2]? =some (.cells #[.iface 152 (.slice (some ⟨wr.heap.size+1,0,none⟩) mx mx)] 150 (0,0)):=fun o1 o2=>by
     have:=heap_alloc_new ((wr.alloc o1).alloc o2) (.cells #[.iface 152 (.slice (some ⟨wr.heap.size+1,0,none⟩) mx mx)] 150)
     rw [show ((wr.alloc o1).alloc o2).heap.size=wr.heap.size+2 by simp] at this
     exact this
    obtain ⟨kind,key,value,max⟩:=x
    generalize tabs.map HTab.cell=tc at HOWN HST
    simp only at k0 k1 k2 k3
    clear hx hmay hmi hmx HI hi h2k
    go_wp2_with (at_builtin;refine wpList_append_lies _ rfl _ _ 145 rfl w.heap.size 150 i0 _ 1 16 underlying145 hi0 hz0 hz1 hz2 rfl (by decide) v k tc rfl (HOWN.out _ ((((Fr.refl _ _).alloc _).alloc _).alloc _)) ⟨wr.heap.size+2,0,none⟩ 1 1 [.iface 152 (.slice (some ⟨wr.heap.size+1,0,none⟩) mx mx)] rfl rfl (World.news_of_block (cs:= #[.iface 152 (.slice (some ⟨wr.heap.size+1,0,none⟩) mx mx)]) (t:=150) (fr:=(0,0)) (H1 _ _)) (by simp [Value.oneCell']) (by omega) (by unfold maxLen;omega) (by omega) (by simp;omega) (wr.heap.size+3) (by simp) ?_;intro g2 cap2 w5 hown hgrow hat hlt2;have q5:=(HQ5.out _ _ ((((Fr.refl _ _).alloc _).alloc _).alloc _) hgrow);have HE:=Lib.hid (HST.out _ _ _ _ _ hown hgrow hat);clear hown hgrow hat hlt2;obtain ⟨q5,q6⟩:=q5)
    go_roundw
    case rel=>exact ⟨k+1,by omega,by go_num,HE.out⟩
    case measure=>simp [intOf]<;>omega
  ·obtain rfl:k=n:=by omega
   go_wp2_with fail
   go_ret2
   obtain ⟨tabs,v,hi⟩:=HI.out
   have hN:=HN.out
   rw [←hN] at hi
   refine ⟨b,rfl,hi.done (R:=fun _=>False) (by rw [List.map_map];exact List.map_id'' (fun _=>rfl) l) (by omega) (fun q hq=> ?_) (fun _ h=>h.elim) (fun a n c e=> ?_),hi.fr⟩
   ·simp [Value.ownBlock] at hq
    subst hq
    exact .inl ⟨HLO.out,by have:=HLB.out;have:=hi.lt;omega⟩
   ·cases e;rfl
theorem mnew_zero(a c mb w)(hmay:Calls prog 56 #[.slice a 0 c] w fun e w'=>e= .returned (.bool true)∧Fr No w w')(hhold:∀W,Fr No w W→Calls prog 62 #[.slice a 0 c, .pointer (some ⟨mb,0,none⟩)] W fun e w'=>e= .returned (.int .i64 0)∧Fr No W w')(hcl:∀W,Fr No w W→Calls prog 30 #[.slice a 0 c] W fun e w'=>(∃a' c',e= .returned (.slice a' 0 c')∧∀x,a'=some x→x=⟨x.block,0,none⟩)∧Fr No W w'):
  Calls prog 28 #[.slice a 0 c, .pointer (some ⟨mb,0,none⟩)] w (NewMade w mb []):=by
 have H:=Lib.hid hmay
 have HH:=Lib.hid hhold
 have HC:=Lib.hid hcl
 clear hmay hhold hcl
 go_enter func28,ntmps28
 go_wp2_with fail
 refine (H.out).mono ?_
 rintro e w1 ⟨rfl,hf⟩
 have HF:=Lib.hid hf
 clear hf
 go_wp2_with fail
 refine (HH.out w1 HF.out).mono ?_
 rintro e w2 ⟨rfl,hf2⟩
 have HF2:=Lib.hid (HF.out.trans hf2)
 clear hf2 HF H HH
 go_wp2_with fail
 refine (HC.out w2 HF2.out).mono ?_
 rintro e w3 ⟨⟨a',c',rfl,hd⟩,hf3⟩
 have HF3:=Lib.hid (HF2.out.trans hf3)
 have HD:=Lib.hid hd
 clear hf3 HC HF2 hd
 go_wp2_with fail
 refine wp_loop_rounds 1 ?_
 rw [rounds_succ]
 go_wp2_with fail
 go_ret2
 refine ⟨w3.heap.size,rfl,?_,HF3.out.trans ((Fr.refl _ _).alloc _)⟩
 have h0:=HF3.out.size
 refine ⟨fun k=>k=w3.heap.size,fun _=>False,⟨[],rfl,?_,?_,⟨.slice a' 0 c', .slice none 0 0,?_,?_, .inl ⟨rfl,_,_,_,_,rfl,rfl⟩⟩,by simp,by simp,List.Pairwise.nil,rfl,by simp,fun _ _=>id⟩,fun k hk=> .inl ⟨by omega,by simp;omega⟩,fun k hk=>hk.elim⟩
 ·rw [World.cell?_alloc_new];rfl
 ·rw [World.cell?_alloc_new];rfl
 ·rw [World.cell?_alloc_new];rfl
 ·rw [World.cell?_alloc_new];rfl
def NewQ(w:World)(mb:Nat)(l:List MapD)(m:List Reg)(e:Ending)(w':World):Prop:=
 if mayL l=true∧holdsB (mregsOf l) m=true then NewMade w mb l e w' else e= .returned (.tuple #[.pointer none, .int .i64 2])∧Fr No w w'
theorem mnew_any{T w mb m}(hm:MemAt w mb m T)(hok:MemOk m)(v)(l:List MapD)(h:MapsIn w v l)(hl:l.length≤1000000):
  Calls prog 28 #[v, .pointer (some ⟨mb,0,none⟩)] w (NewQ w mb l m):=by
 have hmay:=may_any v l w h hl
 have hhold:∀W,Fr No w W→Calls prog 62 #[v, .pointer (some ⟨mb,0,none⟩)] W fun e w'=>e= .returned (.int .i64 (errI (holdsB (mregsOf l) m)))∧Fr No W w':=fun W hW=>hold_any (hm.fr hW (fun _ _=>id)) hok v l (h.fr hW) hl
 unfold NewQ
 cases hq:mayL l with
 |false=>
  rw [hq] at hmay
  refine (mnew_bad v _ w hmay).mono fun e w' h=> ?_
  simpa using h
 |true=>
  rw [hq] at hmay
  cases hh:holdsB (mregsOf l) m with
  |false=>
   rw [hh] at hhold
   refine (mnew_hold v _ 2 w hmay hhold rfl).mono fun e w' h=> ?_
   simpa using h
  |true=>
   rw [hh] at hhold
   have hhold':∀W,Fr No w W→Calls prog 62 #[v, .pointer (some ⟨mb,0,none⟩)] W fun e w'=>e= .returned (.int .i64 0)∧Fr No W w':=hhold
   obtain ⟨h4,hall⟩:=(mayL_iff l).1 hq
   simp only [and_self,if_true]
   rcases h with ⟨rfl,a,c,rfl⟩|⟨g,off,cap,rfl,hc⟩
   ·refine mnew_zero a c mb w hmay hhold' (fun W _=> ?_)
    cases a with
    |none=>
     refine (clone_maps_nil 0 c W).mono ?_
     rintro e w' ⟨rfl,rfl⟩
     exact ⟨⟨_,_,rfl,fun x hx=>by cases hx⟩,Fr.refl _ _⟩
    |some a=>
     refine (clone_maps_zero a c W).mono ?_
     rintro e w' ⟨rfl,hf⟩
     exact ⟨⟨_,_,rfl,fun x hx=>by cases hx;rfl⟩,hf⟩
   ·rcases Nat.eq_zero_or_pos l.length with h0|h0
    ·obtain rfl:=List.eq_nil_of_length_eq_zero h0
     refine mnew_zero _ _ mb w hmay hhold' (fun W _=>(clone_maps_zero _ _ W).mono ?_)
     rintro e w' ⟨rfl,hf⟩
     exact ⟨⟨_,_,rfl,fun x hx=>by cases hx;rfl⟩,hf⟩
    ·exact mnew_walk g off l.length cap mb l w rfl h0 h4 hc hall hmay hhold'
theorem method_acopy(n:Int)(w:World):(method 397 148 (.int .i64 n) "firewall/maps.copy").run prog w= .ok (181, .int .i64 n) w:=by kernel_rfl
theorem method_hcopy(a:Option Addr)(n c:Nat)(w:World):(method 397 152 (.slice a n c) "firewall/maps.copy").run prog w= .ok (184, .slice a n c) w:=by kernel_rfl
theorem face_acopy(n:Int):Face 148 (.int .i64 n) "firewall/maps.copy" 181:=⟨method_acopy n,enters_of func181 (by kernel_rfl) rfl⟩
theorem face_hcopy(a:Option Addr)(n c:Nat):Face 152 (.slice a n c) "firewall/maps.copy" 184:=⟨method_hcopy a n c,enters_of func184 (by kernel_rfl) rfl⟩
theorem acopy_any(n:Int)(w:World):Calls prog 181 #[.int .i64 n] w fun e w'=>e= .returned (.iface 148 (.int .i64 n))∧w=w':=by
 go_enter func181,ntmps181
 go_wp2_with fail
 go_ret
 exact ⟨rfl,rfl⟩
theorem hcopy_walk(v:Value)(n:Nat)(vs:List Value)(w:World)(h:Calls prog 187 #[v] w (ClonePost n vs w 1)):
  Calls prog 184 #[v] w fun e w'=>∃g cap,e= .returned (.iface 152 (.slice (some ⟨g,0,none⟩) n cap))∧w.heap.size≤g∧g<w'.heap.size∧CellsAt w' g 0 vs∧Open w' g 0 (n*1)∧n≤cap∧Fr No w w':=by
 have H:=Lib.hid h
 clear h
 go_enter func184,ntmps184
 go_wp2_with fail
 refine (H.out).mono ?_
 rintro e w1 ⟨g,cap,rfl,h1,h2,h3,h4,h5,h6⟩
 have HA:=Lib.hid h3
 have HO:=Lib.hid h4
 have HF:=Lib.hid h6
 clear h3 h4 h6 H
 go_wp2_with fail
 go_ret
 exact ⟨g,cap,rfl,h1,h2,HA.out,HO.out,h5,HF.out⟩
structure CopiedT(x:HTab)(W:World)(x':HTab)(w':World):Prop where
 t:x'.t=x.t
 fr:Fr No W w'
 here:x.t.d.kind=2→x'.here w'∧W.heap.size≤x'.h∧x'.h<w'.heap.size
theorem HTab.copy_face{w:World}{x:HTab}(ok:x.t.ok)(hh:x.t.d.kind=2→∀W,Fr No w W→x.here W):
  ∃T v f,x.cell= .iface T v∧Face T v "firewall/maps.copy" f∧∀W,Fr No w W→Calls prog f #[v] W fun e w'=>∃x',e= .returned x'.cell∧Hid (CopiedT x W x' w')∧Fr No W w':=by
 have hb:=ok.bounds
 rcases ok.kinds with h1|h2
 ·refine ⟨_,_,_,by unfold HTab.cell;rw [if_pos h1],face_acopy _,fun W _=>(acopy_any _ W).mono ?_⟩
  rintro e w' ⟨rfl,rfl⟩
  refine ⟨x,by unfold HTab.cell;rw [if_pos h1],⟨rfl,Fr.refl _ _,fun h=>by omega⟩,Fr.refl _ _⟩
 ·have hn1:¬x.t.d.kind=1:=by omega
  refine ⟨_,_,_,by unfold HTab.cell;rw [if_neg hn1],face_hcopy _ _ _,fun W hW=> ?_⟩
  have here:=hh h2 W hW
  refine (hcopy_walk _ x.t.ks.length (strs x.t.ks) W (clone_strs x.h 0 x.t.ks.length x.cap (strs x.t.ks) W (by rw [strs_length];omega) (by omega) (by omega) here.keys (strs_one _))).mono ?_
  rintro e w' ⟨g,cap,rfl,a1,a2,a3,a4,a5,a6⟩
  refine ⟨⟨x.t,g,cap⟩,by unfold HTab.cell;rw [if_neg hn1],⟨rfl,a6,fun _=>⟨⟨a3,by rw [Nat.mul_one] at a4;exact a4,a5⟩,a1,a2⟩⟩,a6⟩
end Go.Proofs.YtfmcmfiebehhiaaGreatDoor

