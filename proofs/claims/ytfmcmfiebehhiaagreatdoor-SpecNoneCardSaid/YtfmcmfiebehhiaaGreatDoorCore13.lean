/- maps: Copy. maps: Copy at any maps. maps over a memory, both made by the call: what each function does to the pair. No condition. What of a memory's regions never changes: where they lie, how much .. -/
import Derived.Test.YtfmcmfiebehhiaaGreatDoorCore12
import Derived.Test.YtfmcmfiebehhiaaGreatDoorCore7
import Derived.Test.YtfmcmfiebehhiaaGreatDoorCoreS
import Derived.Test.YtfmcmfiebehhiaaGreatDoorCore8
import Derived.Outline
set_option linter.all false
set_option linter.unusedVariables false
set_option linter.unusedSimpArgs false
set_option maxRecDepth 100000
set_option maxHeartbeats 1000000
namespace Go.Proofs.YtfmcmfiebehhiaaGreatDoor
open Go.Proofs.Tryz
open Go.RowKit
theorem mcopy_hold(b:Nat)(lv mp:Value)(err:Int)(w:World)(h:w.cell? ⟨b,0,none⟩=some (.bool true))(h1:w.cell? ⟨b,1,none⟩=some lv)(hne:(err !=0)=true)
  (hhold:Calls prog 62 #[lv,mp] w fun e w'=>e= .returned (.int .i64 err)∧Fr No w w'):
  Calls prog 111 #[.pointer (some ⟨b,0,none⟩),mp] w fun e w'=>e= .returned (.pointer none)∧Fr No w w':=by
 have H:=Lib.hid hhold
 clear hhold
 go_enter func111,ntmps111
 go_wp2_with fail
 refine (H.out).mono ?_
 rintro e w1 ⟨rfl,hf⟩
 go_wp2_with fail
 go_ret
 exact ⟨rfl,hf⟩
theorem HTab.cell_iface(x:HTab):∃T v,x.cell= .iface T v:=by
 unfold HTab.cell
 split<;>exact ⟨_,_,rfl⟩
theorem mcopy_walk(b mb2 n ct gt:Nat)(lv:Value)(l:List HTab)(w:World)(hl:l.length=n)(h4:n≤4)(hdl:0<n)(h0:w.cell? ⟨b,0,none⟩=some (.bool true))(h1:w.cell? ⟨b,1,none⟩=some lv)(h2:w.cell? ⟨b,2,none⟩=some (.slice (some ⟨gt,0,none⟩) n ct))
  (hc:CellsAt w gt 0 (l.map HTab.cell)) (hmaps:MapsIn w lv (l.map fun x=>x.t.d)) (hok:∀x∈l,x.t.ok) (hhere:∀x∈l,x.t.d.kind=2→∀W,Fr No w W→x.here W)
  (hhold:Calls prog 62 #[lv, .pointer (some ⟨mb2,0,none⟩)] w fun e w'=>e= .returned (.int .i64 0)∧Fr No w w'):
  Calls prog 111 #[.pointer (some ⟨b,0,none⟩), .pointer (some ⟨mb2,0,none⟩)] w fun e w'=>∃b',e= .returned (.pointer (some ⟨b',0,none⟩))∧Hid (∃tabs v,NewI w b' mb2 lv (l.map fun x=>x.t.d) (l.map (·.t)) n tabs v w'):=by
 obtain ⟨la,lc,hlv⟩:∃a c,lv= .slice a n c:=by
  obtain ⟨a,c,e⟩:=hmaps.form
  rw [List.length_map,hl] at e
  exact ⟨a,c,e⟩
 subst hlv
 have H:=Lib.hid hhold
 have HC:=Lib.hid hc
 have HL:=Lib.hid hl
 have HOK:=Lib.hid hok
 have HERE:=Lib.hid hhere
 have HMI:=Lib.hid hmaps
 have HCS:Hid (∀W,Fr No w W→W.cell? ⟨b,1,none⟩=some (.slice la n lc)∧W.cell? ⟨b,2,none⟩=some (.slice (some ⟨gt,0,none⟩) n ct)):=fun W hW=>⟨hW.cell h1 id,hW.cell h2 id⟩
 have hgt:gt<w.heap.size:=World.block_lt_of_cell? w ⟨gt,0+0,none⟩ (hc 0 _ (by rw [List.getElem?_map,List.getElem?_eq_getElem (by omega)];rfl))
 have HLVLT:Hid (∀q,(Value.slice la n lc).ownBlock=some q→q<w.heap.size):=fun q hq=>hmaps.lt (by simp;omega) hq
 obtain ⟨i0,hi0,hz0,hz1,hz2⟩:=info_parts Tryz.info_table
 clear hhold hc hl hok hhere hmaps
 go_enter func111,ntmps111
 go_wp2_with fail
 refine (H.out).mono ?_
 rintro e w1 ⟨rfl,hf⟩
 have HF:=Lib.hid hf
 obtain ⟨d1,d2⟩:=HCS.out w1 hf
 have d2a:∀o:Obj,(w1.alloc o).cell? ⟨b,2,none⟩=some (.slice (some ⟨gt,0,none⟩) n ct):=fun o=>((Fr.refl No w1).alloc o).cell d2 id
 have HI0:Hid (NewI w w1.heap.size mb2 (.slice la n lc) (l.map fun x=>x.t.d) (l.map (·.t)) 0 [] (.slice none 0 0) (w1.alloc (.cells #[.bool true, .slice la n lc, .slice none 0 0, .pointer (some ⟨mb2,0,none⟩)] 147))):=by
  have hfa:Fr No w (w1.alloc (.cells #[.bool true, .slice la n lc, .slice none 0 0, .pointer (some ⟨mb2,0,none⟩)] 147)):=HF.out.alloc _
  refine ⟨hfa,HF.out.size,?_,?_,?_,?_,World.frozen?_alloc_new _ _ _ _,HMI.out.fr hfa,rfl,World.ownsRow_nil _ _ _ _,by simp,by simp,List.Pairwise.nil,by simp [Value.ownBlock],fun e=>by have:=HLVLT.out _ e;have:=HF.out.size;omega⟩
  ·rw [World.cell?_alloc_new];rfl
  ·rw [World.cell?_alloc_new];rfl
  ·rw [World.cell?_alloc_new];rfl
  ·rw [World.cell?_alloc_new];rfl
 have HFA:Hid (Fr No w (w1.alloc (.cells #[.bool true, .slice la n lc, .slice none 0 0, .pointer (some ⟨mb2,0,none⟩)] 147))):=HF.out.alloc _
 clear hf h0 h1 h2 H
 go_wp2_with fail
 generalize w1.alloc (.cells #[.bool true, .slice la n lc, .slice none 0 0, .pointer (some ⟨mb2,0,none⟩)] 147)=w4 at*
 generalize w1.heap.size=b2 at*
 clear d1 d2 d2a HF HCS
 go_loopw [38] (fun s wr=>∃k:Nat,k≤n∧s= .int .i64 k∧Hid (∃tabs v,NewI w b2 mb2 (.slice la n lc) (l.map fun x=>x.t.d) (l.map (·.t)) k tabs v wr)) (fun s _=>n-(intOf s).toNat)
 case atStart=>exact ⟨0,Nat.zero_le _,rfl, [],_,HI0.out⟩
 case round=>
  obtain ⟨k,hk,rfl,HI⟩:=hrel
  by_cases hlt:k<n
  ·obtain ⟨x,hx⟩:∃x,l[k]? =some x:=⟨l[k]'(by rw [HL.out];exact hlt),List.getElem?_eq_getElem _⟩
   obtain ⟨tabs,v,hi⟩:=HI.out
   have hxm:=List.mem_of_getElem? hx
   have hcell:wr.cell? ⟨gt,k,none⟩=some x.cell:=by
    have:=hi.fr.cells HC.out id k x.cell (by rw [List.getElem?_map,hx];rfl)
    rwa [Nat.zero_add] at this
   obtain ⟨T,tv,f,hTv,face,hcp⟩:=HTab.copy_face (HOK.out x hxm) (HERE.out x hxm)
   rw [hTv] at hcell
   have HCP:Hid (∀W,Fr No wr W→Calls prog f #[tv] W fun e w'=>∃x' T' v',e= .returned (.iface T' v')∧Hid (x'.cell= .iface T' v')∧Hid (CopiedT x W x' w')∧Fr No W w'):=fun W hW=>(hcp W (hi.fr.trans hW)).mono fun e w' ⟨x',he,h1,h2⟩=>by
    obtain ⟨T',v',hx'⟩:=x'.cell_iface
    exact ⟨x',T',v',by rw [he,hx'],hx',h1,h2⟩
   have HST:Hid (∀(x':HTab) (W w6:World) (L:Obj) (w7:World) (g2 cap2:Nat),Fr No wr W→CopiedT x W x' w6→w7.ownsRow w.heap.size 150 1 (.slice (some ⟨g2,0,none⟩) (k+1) cap2) (k+1) (tabs.map HTab.cell++ [x'.cell])→(w6.alloc L).grownBy w7 v.ownBlock→(v.ownBlock=some g2∨g2=w6.heap.size+1)→
     ∃tabs' v',NewI w b2 mb2 (.slice la n lc) (l.map fun x=>x.t.d) (l.map (·.t)) (k+1) tabs' v' (w7.setCell ⟨b2,2,none⟩ (.slice (some ⟨g2,0,none⟩) (k+1) cap2))):=fun x' W w6 L w7 g2 cap2 hW hc own hg hat=>by
    have hfw:Fr No wr (w6.alloc L):=(hW.trans hc.fr).alloc L
    refine ⟨_,_,hi.step (x:=x') (by rw [List.getElem?_map,hx,hc.t];rfl) (by rw [hc.t];exact HOK.out x hxm) (by simp;rw [HL.out];exact hdl) hfw (fun h2=> ?_) own (grown_fr hg) ?_⟩
    ·rw [hc.t] at h2
     obtain ⟨a1,a2,a3⟩:=hc.here h2
     have:=(HOK.out x hxm).bounds
     exact ⟨a1.fr ((Fr.refl No _).alloc L) id (by rw [hc.t];omega),by have:=hW.size;omega,by simp;omega⟩
    ·rcases hat with h|rfl
     ·exact .inl h
     ·exact .inr (by simp)
   have HOWN:Hid (∀W,Fr No wr W→W.ownsRow w.heap.size 150 1 v k (tabs.map HTab.cell)):=fun W hW=>ownsRow_fr hi.own hW (fun _ _=>id)
   have HQ5:Hid (∀W w5,Fr No wr W→W.grownBy w5 v.ownBlock→w5.cell? ⟨b2,2,none⟩=some v∧w5.frozen? ⟨b2,2,none⟩=false):=fun W w5 hW hg=>by
    have hs:=hi.to hW
    have hnb:¬OwnOf v b2:=fun hb=>(hi.ne b2 hb).1 rfl
    exact ⟨(grown_fr hg).cell hs.c2 hnb,by rw [(grown_fr hg).frozen hs.c2 hnb];exact hs.free⟩
   have HC2:Hid (∀W,Fr No wr W→W.cell? ⟨b2,2,none⟩=some v):=fun W hW=>hW.cell hi.c2 id
   have HBASE:Hid (∀W,Fr No wr W→w.heap.size≤W.heap.size):=fun W hW=>Nat.le_trans hi.fr.size hW.size
   have c2:=hi.c2
   obtain ⟨hm,he⟩:=face
   clear hx hxm hi HI hTv hcp
   go_upto_region 12 with fail
   generalize htc:tabs.map HTab.cell=tc at*
   clear htc
   go_region_law (first
    |(go_simp;refine (HCP.out _ (by exact (Fr.refl _ _).drew)).mono ?_;rintro e w6 ⟨x',T',v',rfl,HX',HX6,hf6⟩;have c6:=HC2.out w6 (((Fr.refl _ _).drew).trans hf6);have c6a:=fun o:Obj=>HC2.out (w6.alloc o) ((((Fr.refl _ _).drew).trans hf6).alloc o))
    |(refine guard_append (.tmp 46) (.tmp 49) 145 ?_ ?_;rfl;refine step_append_lies _ (by rfl) (.tmp 46) (.tmp 49) 145 (by rfl) w.heap.size 150 i0 _ 1 16 underlying145 hi0 hz0 hz1 hz2 rfl (by decide) v k tc (by rfl) (by exact HOWN.out _ ((((Fr.refl _ _).drew).trans hf6).alloc _)) ⟨w6.heap.size,0,none⟩ 1 1 [.iface T' v'] (by rfl) (by rfl) (by exact World.news_of_block (cs:= #[.iface T' v']) (t:=150) (fr:=(0,0)) (heap_alloc_new w6 _)) (by simp [Value.oneCell']) (by omega) (by unfold maxLen;omega) (by omega) (by exact HBASE.out _ ((((Fr.refl _ _).drew).trans hf6).alloc _)) (w6.heap.size+1) (by simp) ?_;intro g2 cap2 w7 hown hgrow hat hlt2;have q5:=HQ5.out _ w7 ((((Fr.refl _ _).drew).trans hf6).alloc _) hgrow;have HE:=Lib.hid (HST.out x' _ w6 _ w7 g2 cap2 ((Fr.refl _ _).drew) HX6.out (by rw [HX'.out];exact hown) hgrow hat);clear hown hgrow hat hlt2;obtain ⟨q5,q6⟩:=q5))
   all_goals
    go_wp2_with fail
    go_roundw
    case rel=>exact ⟨k+1,by omega,by go_num,HE.out⟩
    case measure=>simp [intOf]<;>omega
  ·obtain rfl:k=n:=by omega
   go_wp2_with fail
   go_ret
   exact ⟨_,rfl,HI⟩
theorem mcopy_zero(b mb2:Nat)(a a':Option Addr)(c c':Nat)(w:World)(h0:w.cell? ⟨b,0,none⟩=some (.bool true))(h1:w.cell? ⟨b,1,none⟩=some (.slice a 0 c))(h2:w.cell? ⟨b,2,none⟩=some (.slice a' 0 c'))
  (hhold:Calls prog 62 #[.slice a 0 c, .pointer (some ⟨mb2,0,none⟩)] w fun e w'=>e= .returned (.int .i64 0)∧Fr No w w'):
  Calls prog 111 #[.pointer (some ⟨b,0,none⟩), .pointer (some ⟨mb2,0,none⟩)] w fun e w'=>∃b',e= .returned (.pointer (some ⟨b',0,none⟩))∧MadeMaps w b' mb2 [] (fun _=>False) w'∧Fr No w w':=by
 have H:=Lib.hid hhold
 have HCS:Hid (∀W,Fr No w W→W.cell? ⟨b,1,none⟩=some (.slice a 0 c)∧W.cell? ⟨b,2,none⟩=some (.slice a' 0 c')):=fun W hW=>⟨hW.cell h1 id,hW.cell h2 id⟩
 clear hhold
 go_enter func111,ntmps111
 go_wp2_with fail
 refine (H.out).mono ?_
 rintro e w1 ⟨rfl,hf⟩
 have HF:=Lib.hid hf
 obtain ⟨d1,d2⟩:=HCS.out w1 hf
 have d2a:∀o:Obj,(w1.alloc o).cell? ⟨b,2,none⟩=some (.slice a' 0 c'):=fun o=>((Fr.refl No w1).alloc o).cell d2 id
 clear hf h1 h2 H
 go_wp2_with fail
 refine wp_loop_rounds 1 ?_
 rw [rounds_succ]
 go_wp2_with fail
 go_ret
 refine ⟨w1.heap.size,rfl,?_,HF.out.alloc _⟩
 have hsz:=HF.out.size
 refine ⟨fun k=>k=w1.heap.size,fun _=>False,⟨[],rfl,?_,?_,⟨.slice a 0 c, .slice none 0 0,?_,?_, .inl ⟨rfl,_,_,_,_,rfl,rfl⟩⟩,by simp,by simp,List.Pairwise.nil,rfl,by simp,fun _ _=>id⟩,fun k hk=> .inl ⟨by omega,by simp;omega⟩,fun k hk=>hk.elim⟩
 ·rw [World.cell?_alloc_new];rfl
 ·rw [World.cell?_alloc_new];rfl
 ·rw [World.cell?_alloc_new];rfl
 ·rw [World.cell?_alloc_new];rfl
theorem MadeMaps.wide{w w' b mb S R R'}(h:MadeMaps w b mb S R w')(hr:∀k,R k→R' k):MadeMaps w b mb S R' w':=by
 obtain ⟨A,H,a,c,d⟩:=h
 exact ⟨A,H,a,fun k hk=>(c k hk).imp id (hr k),d⟩
def CopyQ(w:World)(mb2:Nat)(S:List Tab)(m2:List Reg)(A:Nat→Prop)(e:Ending)(w':World):Prop:=
 if holdsB (mregsOf (S.map (·.d))) m2=true then∃b',e= .returned (.pointer (some ⟨b',0,none⟩))∧MadeMaps w b' mb2 S A w'∧Fr No w w' else e= .returned (.pointer none)∧Fr No w w'
theorem mcopy_any{A H T:Nat→Prop}{w:World}{b mb mb2:Nat}{S:List Tab}{m2:List Reg}(h:MapsAt w b mb S A H)(hm:MemAt w mb2 m2 T)(hok:MemOk m2):
  Calls prog 111 #[.pointer (some ⟨b,0,none⟩), .pointer (some ⟨mb2,0,none⟩)] w (CopyQ w mb2 S m2 A):=by
 obtain ⟨l,rfl,h⟩:=h
 have hfew:=h.few
 unfold CopyQ
 have hmapd:(l.map (·.t)).map (·.d)=l.map fun x=>x.t.d:=by rw [List.map_map];rfl
 rw [hmapd]
 obtain ⟨lv,tv,c1,c2,hl⟩:=h.list
 have hin:MapsIn w lv (l.map fun x=>x.t.d):=by
  rcases hl with ⟨rfl,a,c,_,_,rfl,_⟩|⟨gl,cl,gt,ct,rfl,rfl,g1,_⟩
  ·exact .inl ⟨rfl,a,c,rfl⟩
  ·exact .inr ⟨gl,0,cl,by simp,g1⟩
 have hhold:=hold_any hm hok lv _ hin (by simp;omega)
 cases hh:holdsB (mregsOf (l.map fun x=>x.t.d)) m2 with
 |false=>
  rw [hh] at hhold
  refine (mcopy_hold b lv _ 2 w h.made c1 rfl hhold).mono fun e w' h=> ?_
  simpa using h
 |true=>
  rw [hh] at hhold
  have hhold':Calls prog 62 #[lv, .pointer (some ⟨mb2,0,none⟩)] w fun e w'=>e= .returned (.int .i64 0)∧Fr No w w':=hhold
  simp only [if_true]
  rcases Nat.eq_zero_or_pos l.length with h0|h0
  ·obtain rfl:=List.eq_nil_of_length_eq_zero h0
   have hz:∃a c a' c',lv= .slice a 0 c∧tv= .slice a' 0 c':=by
    rcases hl with ⟨_,a,c,a',c',e1,e2⟩|⟨gl,cl,gt,ct,e1,e2,_⟩
    ·exact ⟨a,c,a',c',e1,e2⟩
    ·exact ⟨_,_,_,_,e1,e2⟩
   obtain ⟨a,c,a',c',rfl,rfl⟩:=hz
   refine (mcopy_zero b mb2 a a' c c' w h.made c1 c2 hhold').mono ?_
   rintro e w' ⟨b',he,hmm,hf⟩
   exact ⟨b',he,hmm.wide (fun _ h=>h.elim),hf⟩
  ·rcases hl with ⟨e,_⟩|⟨gl,cl,gt,ct,rfl,rfl,g1,g2,g3,g4⟩
   ·rw [e] at h0;simp at h0
   ·have hb:=h.ok
    have hgl:gl<w.heap.size:=hin.lt (by simp;omega) rfl
    refine (mcopy_walk b mb2 l.length ct gt _ l w rfl hfew h0 h.made c1 c2 g2 hin h.ok (fun x hx h2 W hW=>(h.here x hx h2).1.fr hW id (by have:=(hb x hx).bounds;omega)) hhold').mono ?_
    rintro e w' ⟨b',he,hI⟩
    obtain ⟨tabs,v,hi⟩:=hI.out
    have hlen:l.length=(l.map fun x=>x.t.d).length:=by simp
    rw [hlen] at hi
    refine ⟨b',he,(hi.done (R:=fun k=>A k∧k<w.heap.size) hmapd (by simp;omega) (fun q hq=> ?_) (fun k hk=>hk.2) (fun a n c e=> ?_)).wide (fun k hk=>hk.1),hi.fr⟩
    ·simp [Value.ownBlock] at hq
     subst hq
     exact .inr ⟨g3,hgl⟩
    ·cases e;rfl
theorem mregs_wf{l:List MapD}(h:mayL l=true):WF (mregs l):=by
 obtain ⟨h4,hm⟩:=(mayL_iff l).1 h
 have key:∀i (hi:i<(mregs l).length),∃x:MapD,x.may=true∧(mregs l)[i]=x.reg i∧i<4:=fun i hi=>by
  have hl:i<l.length:=by rw [mregs_length] at hi;exact hi
  have hg:=mregs_get l i
  rw [List.getElem?_eq_getElem hi,List.getElem?_eq_getElem hl] at hg
  exact ⟨l[i],hm _ (List.getElem_mem hl),Option.some.inj hg,by omega⟩
 have size:∀(x:MapD) (i:Nat),x.may=true→1≤(x.reg i).data.length∧(x.reg i).data.length≤1024:=fun x i hx=>by
  have h:=(MapD.may_iff x).1 hx
  have e1:1≤x.value*x.max:=Int.le_trans (by omega) (Int.mul_le_mul (a:=1) (b:=1) (by omega) (by omega) (by omega) (by omega))
  have e2:x.value*x.max≤64*16:=Int.mul_le_mul (by omega) (by omega) (by omega) (by omega)
  have:(x.reg i).data.length=(x.value*x.max).toNat:=by show (List.replicate _ _).length=_;simp
  omega
 refine ⟨fun r hr=> ?_,?_,by rw [mregs_length];omega⟩
 ·obtain ⟨i,hi,rfl⟩:=List.getElem_of_mem hr
  obtain ⟨x,hx,e,h4⟩:=key i hi
  rw [e]
  have:=size x i hx
  have hb:(x.reg i).base=mbase i:=rfl
  exact ⟨by rw [hb];unfold mbase;omega,by omega,by unfold Reg.len;rw [hb];unfold mbase;omega,by omega⟩
 ·rw [List.pairwise_iff_getElem]
  intro i j hi hj hij
  obtain ⟨x,hx,e,_⟩:=key i hi
  obtain ⟨y,hy,e2,_⟩:=key j hj
  rw [e,e2]
  have:=size x i hx
  show mbase i+(((x.reg i).data.length:Nat):Int)≤mbase j
  unfold mbase
  omega
theorem mregs_ok{l:List MapD}(h:mayL l=true):MemOk (mregs l):=by
 have hw:=mregs_wf h
 obtain ⟨h4,hm⟩:=(mayL_iff l).1 h
 refine ⟨by rw [mregs_length];omega,fun r hr=> ?_⟩
 obtain ⟨i,hi,rfl⟩:=List.getElem_of_mem hr
 have hl:i<l.length:=by rw [mregs_length] at hi;exact hi
 have hg:=mregs_get l i
 rw [List.getElem?_eq_getElem hi,List.getElem?_eq_getElem hl] at hg
 rw [Option.some.inj hg]
 have h:=(MapD.may_iff _).1 (hm _ (List.getElem_mem hl))
 have e2:l[i].value*l[i].max≤64*16:=Int.mul_le_mul (by omega) (by omega) (by omega) (by omega)
 show (List.replicate _ _).length≤_
 simp
 omega
theorem holds_self{l:List MapD}(h:mayL l=true):holdsB (mregsOf l) (mregs l)=true:=by
 unfold holdsB mregsOf
 rw [if_pos h,List.all_eq_true]
 intro x hx
 rw [List.any_eq_true]
 refine ⟨x,hx,?_⟩
 unfold fits
 obtain ⟨i,hi,rfl⟩:=List.getElem_of_mem hx
 have hl:i<l.length:=by rw [mregs_length] at hi;exact hi
 have hg:=mregs_get l i
 rw [List.getElem?_eq_getElem hi,List.getElem?_eq_getElem hl] at hg
 rw [Option.some.inj hg]
 simp [MapD.reg]
theorem holds_new{l:List MapD}{m}(h:mayL l=true)(hh:holdsB (mregsOf l) m=true):HoldsM (l.map Tab.new) m:=by
 intro i t hi
 rw [List.getElem?_map] at hi
 obtain ⟨d,hd,rfl⟩:=Option.map_eq_some_iff.1 hi
 unfold holdsB mregsOf at hh
 rw [if_pos h,List.all_eq_true] at hh
 have hr:(mregs l)[i]? =some (d.reg i):=by rw [mregs_get,hd];rfl
 have:=hh _ (List.mem_of_getElem? hr)
 rw [List.any_eq_true] at this
 obtain ⟨y,hy,hf⟩:=this
 unfold fits at hf
 obtain ⟨f1,f2,f3⟩:=of_decide_eq_true hf
 obtain ⟨j,hj,rfl⟩:=List.getElem_of_mem hy
 have hmay:=(MapD.may_iff d).1 (((mayL_iff l).1 h).2 d (List.mem_of_getElem? hd))
 have e1:0≤d.value*d.max:=Int.mul_nonneg (by omega) (by omega)
 refine ⟨j,m[j],List.getElem?_eq_getElem hj,f1,?_,f3⟩
 rw [f2]
 show (((List.replicate (d.value*d.max).toNat (0:UInt8)).length:Nat):Int)=d.value*d.max
 simp
 omega
theorem mupdate_holds{S m}(hS:∀t∈S,t.ok)(hw:WF m)(h:HoldsM S m)(i)(key val:List UInt8):HoldsM (mupdate S m i key val).1.1 (mupdate S m i key val).1.2:=by
 unfold mupdate
 cases hm:mhas S i key with
 |none=>exact h
 |some t=>
  obtain ⟨k,rfl,hk,hkl⟩:=mhas_some hm
  have ok:=hS t (List.mem_of_getElem? hk)
  by_cases hlen:(val.length:Int)=t.d.value
  ·simp only [hlen,if_true,Int.toNat_natCast]
   have lay:∀p,p<t.ks.length→∃(j:Nat) (r:Reg),m[j]? =some r∧r.base≤mplace k p t∧mplace k p t+val.length≤r.base+(r.data.length:Int):=fun p hp=>by
    obtain ⟨j,r,a,b,c,_⟩:=h.place hk ok hp
    exact ⟨j,r,a,b,by rw [hlen];exact c⟩
   cases hf:t.find key with
   |some p=>
    obtain ⟨j,r,a,b,c⟩:=lay p (find_some hf).1
    exact h.mput hw a b c
   |none=>
    by_cases h1:t.d.kind=1
    ·simp only [h1,if_true];exact h
    ·simp only [if_neg h1]
     cases he:t.find [] with
     |none=>exact h
     |some p=>
      obtain ⟨j,r,a,b,c⟩:=lay p (find_some he).1
      exact (h.mput hw a b c).new hk p key
  ·simp only [hlen,if_false];exact h
theorem mdelete_holds{S m}(h:HoldsM S m)(i key):HoldsM (mdelete S i key).1 m:=by
 unfold mdelete
 cases hm:mhas S i key with
 |none=>exact h
 |some t=>
  obtain ⟨k,rfl,hk,hkl⟩:=mhas_some hm
  by_cases h1:t.d.kind=1
  ·simp only [h1,if_true];exact h
  ·simp only [if_neg h1]
   cases hf:t.find key with
   |none=>exact h
   |some p=>exact h.new hk p []
structure KSt(w0:World)(b mb:Nat)(S:List Tab)(m:List Reg)(A H T:Nat→Prop)(wr:World):Prop where
 maps:MapsAt wr b mb S A H
 mem:MemAt wr mb m T
 dis:∀k,T k→¬A k∧¬H k
 hold:HoldsM S m
 fr:Fr No w0 wr
 new:∀k,H k∨T k→From w0 k
theorem KSt.to{w0 wr w' b mb S m A H T}(h:KSt w0 b mb S m A H T wr)(hf:Fr No wr w'):KSt w0 b mb S m A H T w':=
 ⟨h.maps.no hf,h.mem.fr hf (fun _ _=>id),h.dis,h.hold,h.fr.trans hf,h.new⟩
theorem KSt.apart{w0 wr w' b mb S m A H T X}(h:KSt w0 b mb S m A H T wr)(hf:Fr X wr w')(hX:∀k,X k→From w0 k)(hA:∀k,A k→¬X k)(hH:∀k,H k→¬X k)(hT:∀k,T k→¬X k):KSt w0 b mb S m A H T w':=
 ⟨h.maps.fr hf hA hH,h.mem.fr hf hT,h.dis,h.hold,(h.fr.any.trans (hf.mono fun k _ hk=>hX k hk):Fr (From w0) w0 w').ours,h.new⟩
theorem KSt.len{w0 wr b mb}{S:List Tab}{m A H T}(h:KSt w0 b mb S m A H T wr):
  Calls prog 99 #[.pointer (some ⟨b,0,none⟩)] wr fun e w'=>e= .returned (.int .i64 S.length)∧wr=w':=by
 obtain ⟨l,rfl,hl⟩:=h.maps
 obtain ⟨a,c,hc⟩:=hl.len
 rw [List.length_map]
 exact mlen_any b _ _ a wr hc
theorem KSt.lookup{w0 wr b mb S m A H T}(h:KSt w0 b mb S m A H T wr)(i)(key:List UInt8)(r)(hr:mlookup S i key=r):
  Calls prog 143 #[.pointer (some ⟨b,0,none⟩), .int .i64 i, .string ⟨key.toArray⟩] wr fun e w'=>e= .returned (.int .u64 r)∧Hid (KSt w0 b mb S m A H T w')∧Fr No wr w':=
 (lookup_any h.maps i key).mono fun e w' ⟨he,hf⟩=>⟨by rw [he,hr],h.to hf,hf⟩
theorem KSt.update{w0 wr b mb S m A H T}(h:KSt w0 b mb S m A H T wr)(i)(key val:List UInt8)(S' m' r)(hr:mupdate S m i key val=((S',m'),r)):
  Calls prog 29 #[.pointer (some ⟨b,0,none⟩), .int .i64 i, .string ⟨key.toArray⟩, .string ⟨val.toArray⟩] wr fun e w'=>e= .returned (.int .i64 r)∧Hid (KSt w0 b mb S' m' A H T w')∧Fr (Or2 H T) wr w':=by
 refine (update_any h.maps h.mem h.dis h.hold i key val).mono ?_
 have hh:=mupdate_holds h.maps.ok.1 h.mem.wf h.hold i key val
 rw [hr] at hh ⊢
 rintro e w' ⟨he,hon⟩
 exact ⟨he,⟨hon.maps,hon.mem,h.dis,hh,(h.fr.any.trans (hon.fr.mono fun k _ hk=>h.new k hk):Fr (From w0) w0 w').ours,h.new⟩,hon.fr⟩
theorem KSt.delete{w0 wr b mb S m A H T}(h:KSt w0 b mb S m A H T wr)(i)(key:List UInt8)(S' r)(hr:mdelete S i key=(S',r)):
  Calls prog 144 #[.pointer (some ⟨b,0,none⟩), .int .i64 i, .string ⟨key.toArray⟩] wr fun e w'=>e= .returned (.int .i64 r)∧Hid (KSt w0 b mb S' m A H T w')∧Fr H wr w':=by
 refine (delete_any h.maps i key).mono ?_
 have hh:=mdelete_holds h.hold i key
 rw [hr] at hh ⊢
 rintro e w' ⟨he,hf,hm⟩
 exact ⟨he,⟨hm,h.mem.fr hf (fun k hk=>(h.dis k hk).2),h.dis,hh,(h.fr.any.trans (hf.mono fun k _ hk=>h.new k (.inl hk)):Fr (From w0) w0 w').ours,h.new⟩,hf⟩
theorem KSt.text{w0 wr b mb S m A H T}(h:KSt w0 b mb S m A H T wr)(addr n)(r:List UInt8×Int)(ha:0≤addr)(h64:addr≤18446744073709551615)(h63:n≤9223372036854775807)(hr:mtext m addr n=r):
  Calls prog 42 #[.pointer (some ⟨mb,0,none⟩), .int .u64 addr, .int .i64 n] wr fun e w'=>e= .returned (.tuple #[.string ⟨r.1.toArray⟩, .int .i64 r.2])∧Hid (KSt w0 b mb S m A H T w')∧Fr No wr w':=
 (text_any h.mem addr n ha h64 h63).mono fun e w' ⟨he,hf⟩=>⟨by rw [he,hr],h.to hf,hf⟩
def Reg.shape(r:Reg):Int×Nat×Bool:=(r.base,r.data.length,r.free)
def mshape(m:List Reg):List (Int×Nat×Bool):=m.map Reg.shape
theorem mshape_mput(m addr bs):mshape (mput m addr bs)=mshape m:=by
 unfold mput
 split
 ·rfl
 ·rename_i i hsp
  have hi:=spot_lt hsp
  have hh:=(Reg.has_iff _ _ _).1 (spot_has hsp)
  unfold mshape
  apply List.ext_getElem?
  intro j
  rw [List.getElem?_map,List.getElem?_map,List.getElem?_modify]
  by_cases e:i=j
  ·subst e
   rw [List.getElem?_eq_getElem hi]
   simp only [if_true,Option.map_some,Option.some.injEq,Option.map_eq_map]
   unfold Reg.shape
   rw [put_length _ _ _ hh.1 hh.2]
   rfl
  ·simp [e]
theorem mshape_mwrite(m addr n v):mshape (mwrite m addr n v).1=mshape m:=by
 unfold mwrite
 split
 ·split
  ·rfl
  ·split
   ·exact mshape_mput _ _ _
   ·rfl
 ·rfl
theorem shape_length{m m':List Reg}(h:mshape m'=mshape m):m'.length=m.length:=by
 have:=congrArg List.length h
 simpa [mshape] using this
theorem shape_get{m m':List Reg}(h:mshape m'=mshape m){j:Nat}{r:Reg}(hr:m[j]? =some r):∃r',m'[j]? =some r'∧r'.base=r.base∧r'.data.length=r.data.length∧r'.free=r.free:=by
 have e:(mshape m')[j]? =(mshape m)[j]? :=by rw [h]
 unfold mshape at e
 rw [List.getElem?_map,List.getElem?_map,hr] at e
 obtain ⟨r',h1,h2⟩:=Option.map_eq_some_iff.1 e
 unfold Reg.shape at h2
 simp only [Prod.mk.injEq] at h2
 exact ⟨r',h1,h2.1,h2.2.1,h2.2.2⟩
theorem HoldsM.shape{S m m'}(h:HoldsM S m)(hs:mshape m'=mshape m):HoldsM S m':=by
 intro i t hi
 obtain ⟨j,r,a,b,c,d⟩:=h i t hi
 obtain ⟨r',a',b',c',d'⟩:=shape_get hs a
 exact ⟨j,r',a',by rw [b',b],by rw [c',c],by rw [d',d]⟩
theorem MemOk.shape{m m'}(h:MemOk m)(hs:mshape m'=mshape m):MemOk m':=by
 refine ⟨by rw [shape_length hs];exact h.1,fun r hr=> ?_⟩
 obtain ⟨j,hj⟩:=List.mem_iff_getElem?.1 hr
 obtain ⟨r',a',_,c',_⟩:=shape_get hs.symm hj
 have:=h.2 r' (List.mem_of_getElem? a')
 omega
theorem holdsB_of{S:List Tab}{m:List Reg}(hS:∀t∈S,t.ok)(h4:S.length≤4)(h:HoldsM S m):holdsB (mregsOf (S.map (·.d))) m=true:=by
 have hm:mayL (S.map (·.d))=true:=by
  rw [mayL_iff]
  refine ⟨by simpa using h4,fun x hx=> ?_⟩
  obtain ⟨t,ht,rfl⟩:=List.mem_map.1 hx
  exact (hS t ht).may
 unfold holdsB mregsOf
 rw [if_pos hm,List.all_eq_true]
 intro x hx
 obtain ⟨i,hi⟩:=List.mem_iff_getElem?.1 hx
 rw [mregs_get,List.getElem?_map] at hi
 obtain ⟨d,hd,rfl⟩:=Option.map_eq_some_iff.1 hi
 obtain ⟨t,ht,rfl⟩:=Option.map_eq_some_iff.1 hd
 obtain ⟨j,r,a,b,c,e⟩:=h i t ht
 rw [List.any_eq_true]
 refine ⟨r,List.mem_of_getElem? a,?_⟩
 unfold fits
 have hb:=(hS t (List.mem_of_getElem? ht)).bounds
 have e1:0≤t.d.value*t.d.max:=Int.mul_nonneg (by omega) (by omega)
 have e2:(t.d.reg i).data.length=(t.d.value*t.d.max).toNat:=by show (List.replicate _ _).length=_;simp
 rw [decide_eq_true_eq,e2]
 refine ⟨b,by omega,e⟩
theorem KSt.write{w0 wr b mb S m A H T}(h:KSt w0 b mb S m A H T wr)(addr n:Int)(v:Nat)(ha:0≤addr)(h64:addr≤18446744073709551615)(hv:v<2^64):
  Calls prog 33 #[.pointer (some ⟨mb,0,none⟩), .int .u64 addr, .int .i64 n, .int .u64 v] wr fun e w'=>e= .returned (.int .i64 (mwrite m addr n v).2)∧KSt w0 b mb S (mwrite m addr n v).1 A H T w'∧Fr T wr w':=by
 refine (write_any h.mem addr n v ha h64 hv).mono ?_
 rintro e w' ⟨he,hf,hm⟩
 exact ⟨he,⟨h.maps.fr hf (fun k hk ht=>(h.dis k ht).1 hk) (fun k hk ht=>(h.dis k ht).2 hk),hm,h.dis,h.hold.shape (mshape_mwrite _ _ _ _),(h.fr.any.trans (hf.mono fun k _ hk=>h.new k (.inr hk)):Fr (From w0) w0 w').ours,h.new⟩,hf⟩
theorem hzeros_any(c:Nat)(w:World)(hc:c≤1000000):Calls prog 24 #[.int .i64 c] w fun e w'=>e= .returned (.string (zs c))∧Fr No w w':=by
 have HR:Hid (Calls prog 55 #[.string ⟨#[0]⟩, .int .i64 c] w fun e w'=>e= .returned (.string (zs c))∧Fr No w w'):=repeat_any c w hc
 go_enter func24,ntmps24
 go_wp2_with (go_at_call 55;(with_reducible refine (HR.out).mono ?_);rintro e w1 ⟨rfl,hf⟩)
 go_ret
 exact ⟨rfl,hf⟩
theorem pres1_any(b)(d:List UInt8)(f w):
  Calls prog 54 #[.agg #[.int .u64 b, .string ⟨d.toArray⟩, .bool f]] w fun e w'=>e= .returned (.bool (decide (d= [])))∧Fr No w w':=by
 by_cases hd:d= []
 ·subst hd
  go_enter func54,ntmps54
  go_wp2_with fail
  go_ret
  exact ⟨rfl,(Fr.refl _ _).alloc _⟩
 ·have q:(⟨d.toArray⟩:ByteArray).toList.isEmpty=false:=by simp [ByteArray.toList_eq];exact hd
  have e:decide (d= [])=false:=by simpa using hd
  rw [e]
  obtain ⟨X,hX⟩:∃X:ByteArray,X=⟨d.toArray⟩:=⟨_,rfl⟩
  rw [←hX] at q ⊢
  clear hd hX e
  go_enter func54,ntmps54
  go_wp2_with fail
  go_ret
  exact ⟨rfl,(Fr.refl _ _).alloc _⟩
theorem idxf0_regs(g off n c f:Nat)(l:List Reg)(p:Reg→Bool)(w:World)(hn:l.length=n)(hm:n≤1000000)(hc:CellsAt w g off (aflat l))(he:∀args w,(callFunc f args).run prog w= .ok (.enter f args) w)
  (hp:∀x∈l,∀W,Fr No w W→Calls prog f #[.agg #[.int .u64 x.base, .string ⟨x.data.toArray⟩, .bool x.free]] W fun e w'=>e= .returned (.bool (p x))∧Fr No W w'):
  Calls prog 84 #[.slice (some ⟨g,off,none⟩) n c, .func (.func f) #[] #[]] w fun e w'=>e= .returned (.int .i64 (optI (l.findIdx? p)))∧Fr No w w':=by
 have HC:=Lib.hid hc
 have HN:=Lib.hid hn
 have HP:=Lib.hid hp
 clear hc hn hp
 go_enter func84,ntmps84
 go_wp2_with fail
 go_loopw [8] (fun i wr=>∃k:Nat,k≤n∧i= .int .i64 k∧Hid (Fr No w wr)∧Hid (∀(j:Nat) x,j<k→l[j]? =some x→p x=false)) (fun i _=>n-(intOf i).toNat)
 case atStart=>exact ⟨0,Nat.zero_le _,rfl,Fr.refl _ _,fun j _ h=>absurd h (Nat.not_lt_zero _)⟩
 case round=>
  obtain ⟨k,hk,rfl,HF,HJ⟩:=hrel
  by_cases hlt:k<n
  ·obtain ⟨x,hx⟩:∃x,l[k]? =some x:=⟨l[k]'(by rw [HN.out];exact hlt),List.getElem?_eq_getElem _⟩
   obtain ⟨k0,k1,k2⟩:=areg_cells (HF.out.cells HC.out id) hx
   have HX:=Lib.hid hx
   have HPX:=Lib.hid (HP.out x (List.mem_of_getElem? hx) wr HF.out)
   obtain ⟨t,ht⟩:∃t,p x=t:=⟨_,rfl⟩
   rw [ht] at HPX
   have HT:=Lib.hid ht
   clear ht hx
   cases t with
   |true=>
    have HFI:Hid (l.findIdx? p=some k):=Lib.hid (by
     rw [List.findIdx?_eq_some_iff_getElem]
     have hkl:k<l.length:=by rw [HN.out];exact hlt
     have:=HX.out
     rw [List.getElem?_eq_getElem hkl] at this
     refine ⟨hkl,by rw [Option.some.inj this];exact HT.out,fun j hj=> ?_⟩
     have:=HJ.out j _ hj (List.getElem?_eq_getElem (by omega))
     simpa using this)
    go_wp2_with fail
    refine (HPX.out).mono ?_
    rintro e w5 ⟨rfl,hf5⟩
    go_wp2_with fail
    go_ret
    exact ⟨by rw [HFI.out];rfl,HF.out.trans hf5⟩
   |false=>
    have HJ2:Hid (∀(j:Nat) y,j<k+1→l[j]? =some y→p y=false):=fun j y hj hy=>by
     by_cases e:j=k
     ·subst e
      rw [HX.out] at hy
      obtain rfl:=Option.some.inj hy
      exact HT.out
     ·exact HJ.out j y (by omega) hy
    go_wp2_with fail
    refine (HPX.out).mono ?_
    rintro e w5 ⟨rfl,hf5⟩
    go_wp2_with fail
    go_roundw
    case rel=>exact ⟨k+1,by omega,by go_num,HF.out.trans hf5,HJ2⟩
    case measure=>simp [intOf]<;>omega
  ·obtain rfl:k=n:=by omega
   have HFI:Hid (l.findIdx? p=none):=Lib.hid (by
    rw [List.findIdx?_eq_none_iff]
    intro x hx
    obtain ⟨j,hj,rfl⟩:=List.getElem_of_mem hx
    exact HJ.out j _ (by rw [←HN.out];exact hj) (List.getElem?_eq_getElem hj))
   go_wp2_with fail
   go_ret
   exact ⟨by rw [HFI.out];rfl,HF.out⟩
theorem idx_present(l:List Reg)(g c w)(hm:l.length≤1000000)(hc:CellsAt w g 0 (aflat l)):
  Calls prog 84 #[.slice (some ⟨g,0,none⟩) l.length c, .func (.func 54) #[] #[]] w fun e w'=>e= .returned (.int .i64 (optI (l.findIdx? fun r=>decide (r.data= []))))∧Fr No w w':=
 idxf0_regs g 0 l.length c 54 l _ w rfl hm hc (enters_of func54 (by kernel_rfl) rfl) (fun x _ W _=>pres1_any x.base x.data x.free W)
theorem delf_none(v fv w)(h:Calls prog 84 #[v,fv] w fun e w'=>e= .returned (.int .i64 (-1))∧Fr No w w'):
  Calls prog 53 #[v,fv] w fun e w'=>e= .returned v∧Fr No w w':=by
 have H:=Lib.hid h
 clear h
 go_enter func53,ntmps53
 go_wp2_with (go_at_call 84;(with_reducible refine (H.out).mono ?_);rintro e w1 ⟨rfl,hf⟩)
 go_ret
 exact ⟨rfl,hf⟩
theorem zero_areg(w):(zeroValue 58).run prog w= .ok (.agg #[.int .u64 0, .string ⟨#[]⟩, .bool false]) w:=by
 obtain ⟨i0,hi,hz0,hz1,hz2⟩:=info_parts Tryz.info_areg
 simp [zeroValue,typeInfo,hi,hz0]
theorem clear_run(g n c x y z)(w:World)(c1:w.cell? ⟨g,9,none⟩=some x)(c2:w.cell? ⟨g,10,none⟩=some y)(c3:w.cell? ⟨g,11,none⟩=some z)(f1:w.frozen? ⟨g,9,none⟩=false)(f2:w.frozen? ⟨g,10,none⟩=false)(f3:w.frozen? ⟨g,11,none⟩=false)(ty)(hn:n=1):
  (Builtin.clear_ #[30] ty #[.slice (some ⟨g,9,none⟩) n c]).run prog w= .ok (.tuple #[]) (((w.setCell ⟨g,9,none⟩ (.int .u64 0)).setCell ⟨g,10,none⟩ (.string ⟨#[]⟩)).setCell ⟨g,11,none⟩ (.bool false)):=by
 subst hn
 have hst:=run_storeCells_cells (P:=prog) g 9 [.int .u64 0, .string ⟨#[]⟩, .bool false] 0 w
  (by intro j hj;match j,hj with|0,_=>simp [c1]|1,_=>simp [c2]|2,_=>simp [c3]|k+3,h=>simp at h;omega)
  (by intro j hj;match j,hj with|0,_=>simp [f1]|1,_=>simp [f2]|2,_=>simp [f3]|k+3,h=>simp at h;omega)
  (by intro v hv;simp at hv;rcases hv with rfl|rfl|rfl<;>rfl)
 simp only [Nat.add_zero] at hst
 have hzc:(Builtin.zeroCells (Value.agg #[.int .u64 0, .string ⟨#[]⟩, .bool false]).cells 1).toList= [.int .u64 0, .string ⟨#[]⟩, .bool false]:=by kernel_rfl
 simp [Builtin.clear_,run_underlying underlying30,zero_areg,hzc,hst,World.setCells]
theorem delf_last(g fv x y z)(w:World)(hc:w.cell? ⟨g,9,none⟩=some x∧w.cell? ⟨g,10,none⟩=some y∧w.cell? ⟨g,11,none⟩=some z)(hz:∀j,w.frozen? ⟨g,j,none⟩=false)(h:Calls prog 84 #[.slice (some ⟨g,0,none⟩) 4 4,fv] w fun e w'=>e= .returned (.int .i64 3)∧Fr No w w'):
  Calls prog 53 #[.slice (some ⟨g,0,none⟩) 4 4,fv] w fun e w'=>e= .returned (.slice (some ⟨g,0,none⟩) 3 4)∧∃w1,Fr No w w1∧w'=((w1.setCell ⟨g,9,none⟩ (.int .u64 0)).setCell ⟨g,10,none⟩ (.string ⟨#[]⟩)).setCell ⟨g,11,none⟩ (.bool false):=by
 have H:=Lib.hid h
 have HC:Hid (∀W,Fr No w W→W.cell? ⟨g,9,none⟩=some x∧W.cell? ⟨g,10,none⟩=some y∧W.cell? ⟨g,11,none⟩=some z∧W.frozen? ⟨g,9,none⟩=false∧W.frozen? ⟨g,10,none⟩=false∧W.frozen? ⟨g,11,none⟩=false):=fun W hW=>
  ⟨hW.cell hc.1 id,hW.cell hc.2.1 id,hW.cell hc.2.2 id,by rw [hW.frozen hc.1 id];exact hz 9,by rw [hW.frozen hc.2.1 id];exact hz 10,by rw [hW.frozen hc.2.2 id];exact hz 11⟩
 clear h hc hz
 go_enter func53,ntmps53
 go_wp2_with fail
 refine (H.out).mono ?_
 rintro e w1 ⟨rfl,hf⟩
 obtain ⟨c1,c2,c3,c4,c5,c6⟩:=HC.out w1 hf
 have HF:=Lib.hid hf
 clear hf H HC
 go_wp2_with fail
 refine wp_loop_rounds 1 ?_
 rw [rounds_succ]
 have HCL:=clear_run g 1 1 x y z w1 c1 c2 c3 c4 c5 c6
 go_wp2_with fail
 go_ret
 exact ⟨rfl,w1,HF.out,rfl⟩
end Go.Proofs.YtfmcmfiebehhiaaGreatDoor

