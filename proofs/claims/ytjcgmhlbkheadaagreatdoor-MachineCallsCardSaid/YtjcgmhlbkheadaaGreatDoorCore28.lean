/- A world, as the machine uses it. package machine: far, Touch. (printed by mktouch.py) package machine: pop, what touches bytes. -/
import Derived.Test.YtjcgmhlbkheadaaGreatDoorCore18
import Derived.Test.YtjcgmhlbkheadaaGreatDoorCore27
set_option linter.all false
set_option linter.unusedVariables false
set_option linter.unusedSimpArgs false
set_option maxRecDepth 100000
set_option maxHeartbeats 2000000
namespace Go.Proofs.YtjcgmhlbkheadaaGreatDoor
open Go.RowKit
structure HWok(ds:List MapD)(W:HW):Prop where
 tabs:W.S.map (·.d)=ds
 draws:∀d∈W.D,0≤d∧d<18446744073709551616
def Zof(w0:World)(N k:Nat):Prop:=w0.heap.size≤k∧k<N
structure WM(w0:World)(N:Nat)(bw mb:Nat)(ds:List MapD)(p:Nat)(RL:List Reg)(W:HW)(wr:World):Prop where
 ex:∃b A H T mv ov dv,WAt w0 bw b mb ds p RL W.D W.S W.m A H T mv ov dv wr∧(∀k,A k∨H k∨T k→k<N)∧∀k,mv.ownBlock=some k∨ov.ownBlock=some k∨dv.ownBlock=some k→k<N
 ok:HWok ds W
 bw:bw<N
 bound:N≤wr.heap.size
theorem WM.fr{w0 wr:World}{N:Nat}{bw mb p:Nat}{ds:List MapD}{RL:List Reg}{W:HW}(h:WM w0 N bw mb ds p RL W wr):Fr No w0 wr:=by
 obtain ⟨b,A,H,T,mv,ov,dv,hw,hz⟩:=h.ex
 exact hw.k.fr
theorem WM.lo{w0 wr:World}{N:Nat}{bw mb p:Nat}{ds:List MapD}{RL:List Reg}{W:HW}(h:WM w0 N bw mb ds p RL W wr):w0.heap.size≤bw:=by
 obtain ⟨b,A,H,T,mv,ov,dv,hw,hz⟩:=h.ex
 exact hw.lo
theorem WM.to{w0 wr w':World}{N:Nat}{bw mb p:Nat}{ds:List MapD}{RL:List Reg}{W:HW}(h:WM w0 N bw mb ds p RL W wr)(hf:Fr No wr w'):WM w0 N bw mb ds p RL W w':=by
 obtain ⟨b,A,H,T,mv,ov,dv,hw,hz⟩:=h.ex
 exact ⟨⟨b,A,H,T,mv,ov,dv,hw.to hf,hz⟩,h.ok,h.bw,Nat.le_trans h.bound hf.size⟩
theorem WAt.beside{w0 wr w':World}{X:Nat→Prop}{N bw b mb p:Nat}{ds:List MapD}{RL:List Reg}{D:List Int}{S:List Tab}{m:List Reg}{A H T:Nat→Prop}{mv ov dv:Value}(h:WAt w0 bw b mb ds p RL D S m A H T mv ov dv wr)(hf:Fr X wr w')(hX:∀k,X k→N≤k)(hbw:bw<N)
  (hA:∀k,A k∨H k∨T k→k<N) (hv:∀k,mv.ownBlock=some k∨ov.ownBlock=some k∨dv.ownBlock=some k→k<N):WAt w0 bw b mb ds p RL D S m A H T mv ov dv w':=by
 have hb:¬X bw:=fun hx=>by have:=hX _ hx;omega
 have n1:∀k,A k→¬X k:=fun k hk hx=>by have:=hX _ hx;have:=hA k (.inl hk);omega
 have n2:∀k,H k→¬X k:=fun k hk hx=>by have:=hX _ hx;have:=hA k (.inr (.inl hk));omega
 have n3:∀k,T k→¬X k:=fun k hk hx=>by have:=hX _ hx;have:=hA k (.inr (.inr hk));omega
 have v1:Apart X mv:=fun k hk hx=>by have:=hX _ hx;have:=hv k (.inl hk);omega
 have v2:Apart X ov:=fun k hk hx=>by have:=hX _ hx;have:=hv k (.inr (.inl hk));omega
 have v3:Apart X dv:=fun k hk hx=>by have:=hX _ hx;have:=hv k (.inr (.inr hk));omega
 have hlo:w0.heap.size≤bw:=h.lo
 exact ⟨hf.cell h.c0 hb,hf.cell h.c1 hb,hf.cell h.c2 hb,hf.cell h.c3 hb,hf.cell h.c4 hb,hf.cell h.c5 hb,hf.cell h.c6 hb,by rw [hf.frozen h.c6 hb];exact h.open6,h.nb,h.lo,h.maps.frS hf v1,h.mapsA,h.own.frS hf v2,h.ownA,h.draws.fr hf v3,h.drawsA,h.k.apart hf (fun k hk=>by have:=hX k hk;show w0.heap.size≤k;omega) n1 n2 n3,
  fun k hk=>Nat.lt_of_lt_of_le (h.lt k hk) hf.size,fun k hk=>Nat.lt_of_lt_of_le (h.ltv k hk) hf.size⟩
theorem WM.beside{w0 wr w':World}{X:Nat→Prop}{N:Nat}{bw mb p:Nat}{ds:List MapD}{RL:List Reg}{W:HW}(h:WM w0 N bw mb ds p RL W wr)(hf:Fr X wr w')(hX:∀k,X k→N≤k):WM w0 N bw mb ds p RL W w':=by
 obtain ⟨b,A,H,T,mv,ov,dv,hw,hz,hv⟩:=h.ex
 exact ⟨⟨b,A,H,T,mv,ov,dv,hw.beside hf hX h.bw hz hv,hz,hv⟩,h.ok,h.bw,Nat.le_trans h.bound hf.size⟩
theorem WM.tabs{w0 wr:World}{N:Nat}{bw mb p:Nat}{ds:List MapD}{RL:List Reg}{W:HW}(h:WM w0 N bw mb ds p RL W wr):(∀t∈W.S,t.ok)∧W.S.length≤4∧WF W.m∧HoldsM W.S W.m:=by
 obtain ⟨b,A,H,T,mv,ov,dv,hw,hz⟩:=h.ex
 obtain ⟨l,hl,hm⟩:=hw.k.maps
 refine ⟨fun t ht=> ?_,?_,?_,hw.k.hold⟩
 ·rw [←hl] at ht
  obtain ⟨x,hx,rfl⟩:=List.mem_map.1 ht
  exact hm.ok x hx
 ·rw [←hl,List.length_map];exact hm.few
 ·obtain ⟨v,l2,hl2,h2⟩:=hw.k.mem
  rw [←hl2]
  exact h2.wf
theorem WM.may{w0 wr:World}{N:Nat}{bw mb p:Nat}{ds:List MapD}{RL:List Reg}{W:HW}(h:WM w0 N bw mb ds p RL W wr):(∀x∈ds,x.may=true)∧ds.length≤4∧W.S.length=ds.length:=by
 obtain ⟨h1,h2,_,_⟩:=h.tabs
 have e:=h.ok.tabs
 refine ⟨fun x hx=> ?_,?_,?_⟩
 ·rw [←e] at hx
  obtain ⟨t,ht,rfl⟩:=List.mem_map.1 hx
  exact (h1 t ht).may
 ·rw [←e,List.length_map];exact h2
 ·rw [←e,List.length_map]
theorem WM.memory{w0 wr:World}{N:Nat}{bw mb p:Nat}{ds:List MapD}{RL:List Reg}{W:HW}(h:WM w0 N bw mb ds p RL W wr):
  Calls Tryz.prog 10 #[.pointer (some ⟨bw,0,none⟩)] wr fun e w'=>e= .returned (.pointer (some ⟨mb,0,none⟩))∧wr=w':=by
 obtain ⟨b,A,H,T,mv,ov,dv,hw,hz⟩:=h.ex
 exact hmemory_any bw mb wr hw.c0 hw.c4
theorem WM.read{w0 wr:World}{N:Nat}{bw mb p:Nat}{ds:List MapD}{RL:List Reg}{W:HW}(h:WM w0 N bw mb ds p RL W wr)(addr:Nat)(n:Int)(ha:addr<18446744073709551616):
  Calls Tryz.prog 177 #[.pointer (some ⟨mb,0,none⟩), .int .u64 addr, .int .i64 n] wr fun e w'=>e= .returned (.tuple #[.int .u64 ((mread W.m addr n).1:Int), .int .i64 (mread W.m addr n).2])∧Fr No wr w':=by
 obtain ⟨b,A,H,T,mv,ov,dv,hw,hz⟩:=h.ex
 exact read_any hw.k.mem addr n (by omega) (by omega)
theorem WM.text{w0 wr:World}{N:Nat}{bw mb p:Nat}{ds:List MapD}{RL:List Reg}{W:HW}(h:WM w0 N bw mb ds p RL W wr)(addr:Nat)(n:Int)(ha:addr<18446744073709551616)(hn:n≤9223372036854775807):
  Calls Tryz.prog 11 #[.pointer (some ⟨mb,0,none⟩), .int .u64 addr, .int .i64 n] wr fun e w'=>e= .returned (.tuple #[.string (bA' (mtext W.m addr n).1), .int .i64 (mtext W.m addr n).2])∧Fr No wr w':=by
 obtain ⟨b,A,H,T,mv,ov,dv,hw,hz⟩:=h.ex
 exact text_any hw.k.mem addr n (by omega) (by omega) hn
theorem WM.write{w0 wr:World}{N:Nat}{bw mb p:Nat}{ds:List MapD}{RL:List Reg}{W:HW}(h:WM w0 N bw mb ds p RL W wr)(addr:Nat)(n:Int)(v:Nat)(ha:addr<18446744073709551616)(hv:v<18446744073709551616):
  Calls Tryz.prog 29 #[.pointer (some ⟨mb,0,none⟩), .int .u64 addr, .int .i64 n, .int .u64 v] wr fun e w'=>e= .returned (.int .i64 (mwrite W.m addr n v).2)∧Hid (WM w0 N bw mb ds p RL {W with m:=(mwrite W.m addr n v).1} w')∧Hid (Fr (Zof w0 N) wr w'):=by
 obtain ⟨b,A,H,T,mv,ov,dv,hw,hz,hv2⟩:=h.ex
 refine (hw.k.write addr n v (by omega) (by omega) hv).mono ?_
 rintro e w' ⟨he,hk,hf⟩
 exact ⟨he,⟨⟨b,A,H,T,mv,ov,dv,hw.turn (hf.mono fun _ _ hq=> .inr hq) hk,hz,hv2⟩,⟨h.ok.tabs,h.ok.draws⟩,h.bw,Nat.le_trans h.bound hf.size⟩,hf.mono fun k _ hk=>⟨hw.k.new k (.inr hk),hz k (.inr (.inr hk))⟩⟩
theorem tabs_mdelete(S:List Tab)(i:Int)(key:List UInt8):(mdelete S i key).1.map (·.d)=S.map (·.d):=by
 unfold mdelete
 split
 ·rfl
 ·rename_i t hm
  obtain ⟨k,rfl,hk,_⟩:=mhas_some hm
  split
  ·rfl
  ·split
   ·rfl
   ·apply List.ext_getElem?
    intro j
    simp only [Int.toNat_natCast,List.getElem?_map,List.getElem?_set]
    by_cases e:k=j
    ·subst e
     obtain ⟨hlt,e2⟩:=List.getElem?_eq_some_iff.1 hk
     simp [hlt,e2]
     rfl
    ·simp [e]
theorem tabs_mupdate(S:List Tab)(m:List Reg)(i:Int)(key val:List UInt8):(mupdate S m i key val).1.1.map (·.d)=S.map (·.d):=by
 unfold mupdate
 split
 ·rfl
 ·rename_i t hm
  obtain ⟨k,rfl,hk,_⟩:=mhas_some hm
  split
  ·split
   ·rfl
   ·split
    ·rfl
    ·split
     ·rfl
     ·apply List.ext_getElem?
      intro j
      simp only [Int.toNat_natCast,List.getElem?_map,List.getElem?_set]
      by_cases e:k=j
      ·subst e
       obtain ⟨hlt,e2⟩:=List.getElem?_eq_some_iff.1 hk
       simp [hlt,e2]
       rfl
      ·simp [e]
  ·rfl
theorem callM_ok{ds:List MapD}{W:HW}(h:HWok ds W)(id a0 a1 a2 a3:Int):HWok ds (callM ds W id a0 a1 a2 a3).2:=by
 unfold callM
 split
 ·exact h
 ·split
  ·exact ⟨h.tabs,fun d hd=>h.draws d (List.mem_of_mem_tail hd)⟩
  ·dsimp only
   split
   ·exact h
   ·split
    ·exact h
    ·split
     ·exact h
     ·split
      ·exact ⟨by rw [tabs_mdelete];exact h.tabs,h.draws⟩
      ·split
       ·exact h
       ·split
        ·exact h
        ·exact ⟨by rw [tabs_mupdate];exact h.tabs,h.draws⟩
theorem mlookup_lt{S:List Tab}(hS:∀t∈S,t.ok)(h4:S.length≤4)(i:Int)(key:List UInt8):0≤mlookup S i key∧mlookup S i key<18446744073709551616:=by
 unfold mlookup
 split
 ·decide
 ·rename_i t hm
  obtain ⟨k,rfl,hk,_⟩:=mhas_some hm
  split
  ·decide
  ·rename_i p hp
   have ht:=hS t (List.mem_of_getElem? hk)
   have hkl:=(List.getElem?_eq_some_iff.1 hk).1
   have hm:=((MapD.may_iff _).1 ht.may)
   have hp2:=(find_some hp).1
   have hl:=ht.len
   unfold mplace mbase
   rw [Int.toNat_natCast]
   have h1:(p:Int)*t.d.value≤16*64:=Int.mul_le_mul (by omega) (by omega) (by omega) (by omega)
   have h2:0≤(p:Int)*t.d.value:=Int.mul_nonneg (by omega) (by omega)
   omega
theorem wcall_noval{w0 wr:World}{bw b mb p:Nat}{ds:List MapD}{RL:List Reg}{D:List Int}{S:List Tab}{m:List Reg}{A H T:Nat→Prop}{mv ov dv:Value}(h:WAt w0 bw b mb ds p RL D S m A H T mv ov dv wr)(ha:ArgsAt w0)(hS:S.length=ds.length)(h4:ds.length≤4){i:Nat}{x:MapD}(hi:ds[i]? =some x)(a1 a2 a3 a4:Int)
  (l1:0≤a1) (l2:a1≤18446744073709551615) (l3:0≤a2) (l4:a2≤18446744073709551615) (hx:x.key≤9223372036854775807) (hy:x.value≤9223372036854775807) (key val:List UInt8) (vr:Int) (hk:mtext m a1 x.key=(key,0)) (hv:mtext m a2 x.value=(val,vr)) (hv0:(vr==0)=false):
  Calls Tryz.prog 67 #[.pointer (some ⟨bw,0,none⟩), .int .i64 2,five (9437184+(i:Int)) a1 a2 a3 a4] wr fun e w'=>e= .returned (.tuple #[.int .u64 0, .int .i64 vr])∧Hid (WAt w0 bw b mb ds p RL D S m A H T mv ov dv w'∧Fr No wr w'):=by
 obtain ⟨gm,om,cm,hc⟩:=h.callW hi
 have hil:i<ds.length:=(List.getElem?_eq_some_iff.1 hi).1
 refine (call_noval bw b mb ds.length gm om cm i x.key x.value (9437184+(i:Int)) a1 a2 a3 a4 vr ⟨key.toArray⟩ ⟨val.toArray⟩ wr hc (ha.fr h.k.fr) (fun W hW=> ?_) (by omega) (by rw [show (9437184+(i:Int))-9437184=(i:Int) by omega];exact u64_nat i (by omega)) hil (fun W hW=> ?_) (fun W hW=> ?_) hv0).mono ?_
 ·have:=(h.k.to hW).len
  rwa [hS] at this
 ·exact ((h.k.to hW).text a1 x.key (key,0) l1 l2 hx hk).mono fun e w' ⟨he,_,hf⟩=>⟨he,hf⟩
 ·exact ((h.k.to hW).text a2 x.value (val,vr) l3 l4 hy hv).mono fun e w' ⟨he,_,hf⟩=>⟨he,hf⟩
 ·rintro e w' ⟨he,hf⟩
  exact ⟨he,h.to hf,hf⟩
theorem draw_any2{w0 wr:World}{bw b mb p:Nat}{ds:List MapD}{RL:List Reg}{D:List Int}{S:List Tab}{m:List Reg}{A H T:Nat→Prop}{mv ov dv:Value}(h:WAt w0 bw b mb ds p RL D S m A H T mv ov dv wr):
  Calls Tryz.prog 99 #[.pointer (some ⟨bw,0,none⟩)] wr fun e w'=>e= .returned (.int .u64 (drawN D))∧∃dv',(∀k,dv'.ownBlock=some k→dv.ownBlock=some k)∧WAt w0 bw b mb ds p RL D.tail S m A H T mv ov dv' w'∧Fr (fun k=>k=bw) wr w':=by
 rcases h.draws with ⟨rfl,a,c,hv⟩|⟨g,off,cap,hv,hl,hc⟩
 ·refine (draw_none bw c a wr (by rw [h.c6,hv])).mono ?_
  rintro e w' ⟨he,rfl⟩
  exact ⟨he,dv,fun _ hk=>hk,h,Fr.refl _ _⟩
 ·cases D with
  |nil=>
   refine (draw_none bw cap (some ⟨g,off,none⟩) wr (by rw [h.c6,hv];rfl)).mono ?_
   rintro e w' ⟨he,rfl⟩
   exact ⟨he,dv,fun _ hk=>hk,h,Fr.refl _ _⟩
  |cons d l=>
   have c0:=hc 0 _ rfl
   rw [Nat.add_zero] at c0
   refine (draw_some bw g off (l.length+1) cap d wr (by rw [h.c6,hv];rfl) h.open6 (by omega) hl c0).mono ?_
   rintro e w' ⟨he,rfl⟩
   refine ⟨he, .slice (if cap=1 then some ⟨g,off,none⟩ else some ⟨g,off+1,none⟩) (l.length+1-1) (cap-1),?hv,?_,(Fr.refl (fun k=>k=bw) wr).setCell (p:=⟨bw,6,none⟩) (.inr rfl) _⟩
   case hv=>
    intro k hk
    have:k=g:=by
     split at hk<;>simp [Value.ownBlock] at hk<;>omega
    subst this
    rw [hv];rfl
   obtain ⟨W,hW⟩:∃W,W=wr.setCell ⟨bw,6,none⟩ (.slice (if cap=1 then some ⟨g,off,none⟩ else some ⟨g,off+1,none⟩) (l.length+1-1) (cap-1)):=⟨_,rfl⟩
   have hf:Fr (fun k=>k=bw) wr W:=by rw [hW];exact (Fr.refl (fun k=>k=bw) wr).setCell (p:=⟨bw,6,none⟩) (.inr rfl) _
   have hg:g≠bw:=fun e=>h.drawsA g (by rw [hv];rfl) (.inr (.inr e))
   have cs:∀j v,j≠6→wr.cell? ⟨bw,j,none⟩=some v→W.cell? ⟨bw,j,none⟩=some v:=fun j v hj hcell=>by
    rw [hW,World.cell?_setCell_other _ _ _ _ (by intro e;simp only [Addr.mk.injEq] at e;omega)]
    exact hcell
   rw [←hW]
   refine ⟨cs 0 _ (by decide) h.c0,cs 1 _ (by decide) h.c1,cs 2 _ (by decide) h.c2,cs 3 _ (by decide) h.c3,cs 4 _ (by decide) h.c4,cs 5 _ (by decide) h.c5,?_,?_,h.nb,h.lo,?_,h.mapsA,?_,h.ownA,?_,?_,?_,fun k hk=>Nat.lt_of_lt_of_le (h.lt k hk) hf.size,fun k hk=>Nat.lt_of_lt_of_le (h.ltv k ?_) hf.size⟩
   ·rw [hW];exact World.cell?_setCell_same _ _ _ h.c6
   ·rw [hW,World.frozen?_setCell];exact h.open6
   ·exact h.maps.frS hf (fun k hk e=>h.mapsA k hk (.inr (.inr e)))
   ·exact h.own.frS hf (fun k hk e=>h.ownA k hk (.inr (.inr e)))
   ·exact U64sIn.tail hl (hf.cells hc hg)
   ·intro k hk
    have:k=g:=by
     split at hk<;>simp [Value.ownBlock] at hk<;>omega
    subst this
    exact h.drawsA _ (by rw [hv];rfl)
   ·exact h.k.apart hf (fun k hk=>by rw [hk];exact h.lo) (fun k hA e=>h.nb.1 (e ▸ hA)) (fun k hH e=>h.nb.2.1 (e ▸ hH)) (fun k hT e=>h.nb.2.2 (e ▸ hT))
   ·rcases hk with hk|hk|hk
    ·exact .inl hk
    ·exact .inr (.inl hk)
    ·have:k=g:=by
      split at hk<;>simp [Value.ownBlock] at hk<;>omega
     subst this
     exact .inr (.inr (by rw [hv];rfl))
theorem wcall_draw2{w0 wr:World}{bw b mb p:Nat}{ds:List MapD}{RL:List Reg}{D:List Int}{S:List Tab}{m:List Reg}{A H T:Nat→Prop}{mv ov dv:Value}(h:WAt w0 bw b mb ds p RL D S m A H T mv ov dv wr)(ha:ArgsAt w0)(a0 a1 a2 a3 a4:Int):
  Calls Tryz.prog 67 #[.pointer (some ⟨bw,0,none⟩), .int .i64 7,five a0 a1 a2 a3 a4] wr fun e w'=>e= .returned (.tuple #[.int .u64 (drawN D), .int .i64 0])∧Hid ((∃dv',(∀k,dv'.ownBlock=some k→dv.ownBlock=some k)∧WAt w0 bw b mb ds p RL D.tail S m A H T mv ov dv' w')∧Fr (fun k=>k=bw) wr w'):=by
 refine (call_draw bw (drawN D) a0 a1 a2 a3 a4 (fun W w'=>∃dv',(∀k,dv'.ownBlock=some k→dv.ownBlock=some k)∧WAt w0 bw b mb ds p RL D.tail S m A H T mv ov dv' w'∧Fr (fun k=>k=bw) W w') wr h.c0 (ha.fr h.k.fr) (fun W hW=>draw_any2 (h.to hW))).mono ?_
 rintro e w' ⟨he,W,hW,dv',h0,h1,h2⟩
 exact ⟨he,⟨⟨dv',h0,h1⟩,hW.any.trans h2⟩⟩
theorem u64_wrap(x:Int):IntKind.u64.wrap x=x%18446744073709551616:=IntKind.wrap_u64 x
theorem WM.call{w0 wr:World}{N:Nat}{bw mb p:Nat}{ds:List MapD}{RL:List Reg}{W:HW}(h:WM w0 N bw mb ds p RL W wr)(ha:ArgsAt w0)(id a0 a1 a2 a3 a4:Int)(hw:(Lit.int .i64 id).wf=true)
  (h0:0≤a0∧a0<18446744073709551616) (h1:0≤a1∧a1<18446744073709551616) (h2:0≤a2∧a2<18446744073709551616):
  Calls Tryz.prog 67 #[.pointer (some ⟨bw,0,none⟩), .int .i64 id,five a0 a1 a2 a3 a4] wr fun e w'=>e= .returned (.tuple #[.int .u64 (callM ds W id a0 a1 a2 a3).1.1, .int .i64 (callM ds W id a0 a1 a2 a3).1.2])∧Hid (WM w0 N bw mb ds p RL (callM ds W id a0 a1 a2 a3).2 w')∧Hid (Fr (Zof w0 N) wr w'):=by
 obtain ⟨hm,h4,hSl⟩:=h.may
 have hok:=callM_ok h.ok id a0 a1 a2 a3
 obtain ⟨b,A,H,T,mv,ov,dv,hx,hz,hv2⟩:=h.ex
 have keep:∀{e:Ending} {w':World} {r er:Int},callM ds W id a0 a1 a2 a3=((r,er),W)→(e= .returned (.tuple #[.int .u64 r, .int .i64 er])∧Hid (WAt w0 bw b mb ds p RL W.D W.S W.m A H T mv ov dv w'∧Fr No wr w'))→
   e= .returned (.tuple #[.int .u64 (callM ds W id a0 a1 a2 a3).1.1, .int .i64 (callM ds W id a0 a1 a2 a3).1.2])∧Hid (WM w0 N bw mb ds p RL (callM ds W id a0 a1 a2 a3).2 w')∧Hid (Fr (Zof w0 N) wr w'):=by
  intro e w' r er hc ⟨he,hw'⟩
  rw [hc]
  exact ⟨he,h.to hw'.out.2,hw'.out.2.any⟩
 by_cases hno:argHas id=false
 ·exact (wcall_not hx ha id a0 a1 a2 a3 a4 hw hno).mono fun e w' hh=>keep (by unfold callM;rw [if_pos hno]) hh
 by_cases h7:id=7
 ·subst h7
  have hc:callM ds W 7 a0 a1 a2 a3=((drawN W.D,0),{W with D:=W.D.tail}):=by unfold callM;rw [if_neg hno,if_pos rfl]
  rw [hc] at hok ⊢
  refine (wcall_draw2 hx ha a0 a1 a2 a3 a4).mono ?_
  rintro e w' ⟨he,hq⟩
  obtain ⟨⟨dv',hdv,h'⟩,hf⟩:=hq.out
  exact ⟨he,⟨⟨b,A,H,T,mv,ov,dv',h',hz,fun k hk=>hv2 k (hk.imp id fun hk=>hk.imp id fun hk=>hdv k hk)⟩,hok,h.bw,Nat.le_trans h.bound hf.size⟩,hf.mono fun k _ hk=>⟨by rw [hk];exact hx.lo,by rw [hk];exact h.bw⟩⟩
 have hid:id=1∨id=2∨id=3:=by
  unfold argHas at hno
  simp at hno
  omega
 have ex:((a0-9437184)%18446744073709551616).toNat=((a0-9437184)%18446744073709551616).toNat:=rfl
 cases hi:ds[((a0-9437184)%18446744073709551616).toNat]? with
 |none=>
  have hc:callM ds W id a0 a1 a2 a3=((0,2),W):=by unfold callM;rw [if_neg hno,if_neg h7];simp only [hi]
  have hge:=List.getElem?_eq_none_iff.1 hi
  exact (wcall_nomap hx ha (by omega) id a0 a1 a2 a3 a4 _ hw hid (u64_wrap _) (by omega)).mono fun e w' hh=>keep hc hh
 |some x=>
  obtain ⟨i,hin⟩:∃i:Nat,((a0-9437184)%18446744073709551616).toNat=i:=⟨_,rfl⟩
  have hi0:=hi
  rw [hin] at hi
  have hil:=(List.getElem?_eq_some_iff.1 hi).1
  have e0:a0=9437184+(i:Int):=by omega
  have hmx:=(MapD.may_iff _).1 (hm x (List.mem_of_getElem? hi))
  have hkx:x.key≤9223372036854775807:=by omega
  have hvx:x.value≤9223372036854775807:=by omega
  obtain ⟨key,er,hk⟩:∃key er,mtext W.m a1 x.key=(key,er):=⟨_,_,rfl⟩
  by_cases her:er=0
  ·subst her
   by_cases g1:id=1
   ·subst g1
    have hc:callM ds W 1 a0 a1 a2 a3=((mlookup W.S i key,0),W):=by unfold callM;rw [if_neg hno,if_neg h7];simp [hin,hi,hk]
    subst e0
    exact (wcall_lookup hx ha hSl h4 hi a1 a2 a3 a4 h1.1 (by omega) hkx key hk).mono fun e w' hh=>keep hc hh
   by_cases g3:id=3
   ·subst g3
    have hc:callM ds W 3 a0 a1 a2 a3=(((mdelete W.S i key).2%18446744073709551616,0),{W with S:=(mdelete W.S i key).1}):=by unfold callM;rw [if_neg hno,if_neg h7];simp [hin,hi,hk]
    rw [hc] at hok ⊢
    subst e0
    refine (wcall_delete hx ha hSl h4 hi a1 a2 a3 a4 h1.1 (by omega) hkx key hk _ (u64_wrap _)).mono ?_
    rintro e w' ⟨he,hq⟩
    exact ⟨he,⟨⟨b,A,H,T,mv,ov,dv,hq.out.1,hz,hv2⟩,hok,h.bw,Nat.le_trans h.bound hq.out.2.size⟩,hq.out.2.mono fun k _ hk=>⟨hx.k.new k (.inl hk),hz k (.inr (.inl hk))⟩⟩
   obtain rfl:id=2:=by omega
   obtain ⟨val,vr,hv⟩:∃val vr,mtext W.m a2 x.value=(val,vr):=⟨_,_,rfl⟩
   by_cases hvr:vr=0
   ·subst hvr
    by_cases g:a3=0
    ·subst g
     have hc:callM ds W 2 a0 a1 a2 0=(((mupdate W.S W.m i key val).2%18446744073709551616,0),{W with S:=(mupdate W.S W.m i key val).1.1,m:=(mupdate W.S W.m i key val).1.2}):=by unfold callM;rw [if_neg hno,if_neg h7];simp [hin,hi,hk,hv]
     rw [hc] at hok ⊢
     subst e0
     refine (wcall_update hx ha hSl h4 hi a1 a2 a4 h1.1 (by omega) h2.1 (by omega) hkx hvx key val hk hv _ (u64_wrap _)).mono ?_
     rintro e w' ⟨he,hq⟩
     exact ⟨he,⟨⟨b,A,H,T,mv,ov,dv,hq.out.1,hz,hv2⟩,hok,h.bw,Nat.le_trans h.bound hq.out.2.size⟩,hq.out.2.mono fun k _ hk=>⟨hx.k.new k hk,hz k (.inr hk)⟩⟩
    ·have hc:callM ds W 2 a0 a1 a2 a3=((18446744073709551594,0),W):=by unfold callM;rw [if_neg hno,if_neg h7];simp [hin,hi,hk,hv,g]
     subst e0
     exact (wcall_flag hx ha hSl h4 hi a1 a2 a3 a4 h1.1 (by omega) h2.1 (by omega) hkx hvx key val hk hv (by rw [beq_eq_false_iff_ne];exact g)).mono fun e w' hh=>keep hc hh
   ·have hc:callM ds W 2 a0 a1 a2 a3=((0,vr),W):=by unfold callM;rw [if_neg hno,if_neg h7];simp [hin,hi,hk,hv,hvr]
    subst e0
    exact (wcall_noval hx ha hSl h4 hi a1 a2 a3 a4 h1.1 (by omega) h2.1 (by omega) hkx hvx key val vr hk hv (by rw [beq_eq_false_iff_ne];exact hvr)).mono fun e w' hh=>keep hc hh
  ·have hc:callM ds W id a0 a1 a2 a3=((0,er),W):=by unfold callM;rw [if_neg hno,if_neg h7];simp [hin,hi,hk,her]
   subst e0
   exact (wcall_nokey hx ha hSl h4 hi id a1 a2 a3 a4 hw hid h1.1 (by omega) hkx key er hk (by rw [beq_eq_false_iff_ne];exact her)).mono fun e w' hh=>keep hc hh
theorem far_wrap(f:Nat)(d:Int):IntKind.u64.wrap ((f:Int)+IntKind.u64.wrap d)=((farM f d:Nat):Int):=by
 rw [IntKind.wrap_u64,IntKind.wrap_u64]
 unfold farM
 omega
theorem far_any(f:Nat)(d:Int)(w:World)(hd: -2147483648≤d∧d≤2147483647):Calls Tryz.prog 36 #[.int .u64 f, .int .i32 d] w fun e w'=>e= .returned (.int .u64 (farM f d))∧w=w':=by
 have HE:=Lib.hid (far_wrap f d)
 have e1:wrap64 d=d:=IntWalk.wrap64_in _ (by omega)
 have e2:IntKind.i64.wrap d=d:=IntWalk.i64_in _ (by omega)
 clear hd
 go_enter Tryz.func36,Tryz.ntmps36
 go_wp2_with fail
 go_ret
 exact ⟨congrArg (fun z=>Ending.returned (Value.int .u64 z)) HE.out,rfl⟩
structure TSt(w0:World)(b:Nat)(x:XI)(s:ST)(w:World):Prop where
 fr:Fr No w0 w
 x:XAt w b x
 st:SAt w (b+1) s
theorem TSt.no{w0 w w':World}{b:Nat}{x:XI}{s:ST}(h:TSt w0 b x s w)(hf:Fr No w w'):TSt w0 b x s w':=⟨h.fr.trans hf,hf.cells h.x id,h.st.fr hf id⟩
theorem TSt.start{w:World}{x:XI}{s:ST}(hs:s.ok)(t1 t2:TypeId):TSt w w.heap.size x s ((w.alloc (.cells x.cells.toArray t1)).alloc (.cells s.cells.toArray t2)):=by
 obtain ⟨W1,hW1⟩:∃W1,W1=w.alloc (.cells x.cells.toArray t1):=⟨_,rfl⟩
 have z1:W1.heap.size=w.heap.size+1:=by rw [hW1,size_alloc]
 have c1:CellsAt W1 w.heap.size 0 x.cells:=by rw [hW1];exact CellsAt.new w _ _
 have f1:Fr No w W1:=by rw [hW1];exact fr_alloc _ _
 rw [←hW1]
 exact ⟨f1.trans (fr_alloc _ _),(fr_alloc _ _).cells c1 id,by rw [←z1];exact SAt.new W1 hs _⟩
def touV(q:Nat×Int):Value:= .tuple #[.int .u64 q.1, .int .i64 q.2]
theorem touch_13(a c z:Int)(wd sh:Bool)(d r:Nat)(dp rl im:Int)(s:ST)(w:World)(hs:s.ok)(hm:MachAt w)(hx:(Lit.int .i64 z).wf=true)(hd:d<16)(hr:r<16)(hdp: -2147483648≤dp∧dp≤2147483647)(hv:validM ⟨13,a,c,z,wd,sh,d,r,dp,rl,im⟩=true):
  Calls Tryz.prog 34 #[(XI.mk 13 a c z wd sh d r dp rl im).agg,s.agg] w fun e w'=>e= .returned (touV (touchM ⟨13,a,c,z,wd,sh,d,r,dp,rl,im⟩ s))∧Fr No w w':=by
 have HV:Hid (∀W,Fr No w W→Calls Tryz.prog 33 #[(XI.mk 13 a c z wd sh d r dp rl im).agg] W fun e w'=>e= .returned (.bool true)∧Fr No W w'):=fun W hW=>by rw [←hv];exact valid_any _ hx W (hm.fr hW)
 have HE0:Hid (∀t1 t2,_):=TSt.start (w:=w) (x:=⟨13,a,c,z,wd,sh,d,r,dp,rl,im⟩) hs
 have HQ:Hid (touchM ⟨13,a,c,z,wd,sh,d,r,dp,rl,im⟩ s=(farM (s.reg r) dp,z)):=by
  unfold touchM
  rw [if_neg (by rw [hv];simp)]
  exact Lib.hid rfl
 rw [HQ.out]
 clear hm hv
 simp only [XI.agg,ST.agg,touV] at*
 go_enter Tryz.func34,Tryz.ntmps34
 go_upto_region 1 with fail
 refine wp_world (fun W1=>Hid (TSt w w.heap.size ⟨13,a,c,z,wd,sh,d,r,dp,rl,im⟩ s W1)) (by exact HE0.out _ _) ?_
 intro W1 HL
 clear HE0
 obtain ⟨c0,c1,c2,c3,c4,c5,c6,c7,c8,c9,c10⟩:=XI.at HL.out.x
 go_upto_region 3 with (go_at_call 33;(with_reducible refine (HV.out _ HL.out.fr).mono ?_);rintro e w2 ⟨rfl,hf2⟩;replace HL:=Lib.hid (HL.out.no hf2);clear hf2)
 clear c0 c1 c2 c3 c4 c5 c6 c7 c8 c9 c10
 obtain ⟨c0,c1,c2,c3,c4,c5,c6,c7,c8,c9,c10⟩:=XI.at HL.out.x
 obtain ⟨A,hA⟩:∃A,s.reg r=A:=⟨_,rfl⟩
 have HF:Hid (∀W,Calls Tryz.prog 36 #[.int .u64 A, .int .i32 dp] W fun e w'=>e= .returned (.int .u64 (farM A dp))∧W=w'):=fun W=>far_any A dp W hdp
 have rg:=HL.out.st.reg hr
 rw [hA] at rg
 have d1:(0:Int)≤(r:Int):=by omega
 have d2:(r:Int)<16:=by omega
 go_upto_region 5 with fail
 have H0:w2.drew.cell? ⟨w.heap.size,3,none⟩=some (Value.int .i64 z)∧w2.drew.cell? ⟨w.heap.size,6,none⟩=some (Value.int .i64 d)∧w2.drew.cell? ⟨w.heap.size,7,none⟩=some (Value.int .i64 r)∧w2.drew.cell? ⟨w.heap.size,8,none⟩=some (Value.int .i32 dp)∧w2.drew.cell? ⟨w.heap.size+1,r,none⟩=some (Value.int .u64 A):=⟨c3,c6,c7,c8,rg⟩
 go_region_held3 (fun W=>W.cell? ⟨w.heap.size,3,none⟩=some (Value.int .i64 z)∧W.cell? ⟨w.heap.size,6,none⟩=some (Value.int .i64 d)∧W.cell? ⟨w.heap.size,7,none⟩=some (Value.int .i64 r)∧W.cell? ⟨w.heap.size,8,none⟩=some (Value.int .i32 dp)∧W.cell? ⟨w.heap.size+1,r,none⟩=some (Value.int .u64 A)) (first|assumption|go_keep) (first|(go_at_call 36;(with_reducible refine (HF.out _).mono ?_);rintro e w5 ⟨rfl,rfl⟩))
 go_wp2_with fail
 go_ret2
 exact ⟨by rw [hA];rfl,HL.out.fr.drew⟩
theorem touch_14(a c z:Int)(wd sh:Bool)(d r:Nat)(dp rl im:Int)(s:ST)(w:World)(hs:s.ok)(hm:MachAt w)(hx:(Lit.int .i64 z).wf=true)(hd:d<16)(hr:r<16)(hdp: -2147483648≤dp∧dp≤2147483647)(hv:validM ⟨14,a,c,z,wd,sh,d,r,dp,rl,im⟩=true):
  Calls Tryz.prog 34 #[(XI.mk 14 a c z wd sh d r dp rl im).agg,s.agg] w fun e w'=>e= .returned (touV (touchM ⟨14,a,c,z,wd,sh,d,r,dp,rl,im⟩ s))∧Fr No w w':=by
 have HV:Hid (∀W,Fr No w W→Calls Tryz.prog 33 #[(XI.mk 14 a c z wd sh d r dp rl im).agg] W fun e w'=>e= .returned (.bool true)∧Fr No W w'):=fun W hW=>by rw [←hv];exact valid_any _ hx W (hm.fr hW)
 have HE0:Hid (∀t1 t2,_):=TSt.start (w:=w) (x:=⟨14,a,c,z,wd,sh,d,r,dp,rl,im⟩) hs
 have HQ:Hid (touchM ⟨14,a,c,z,wd,sh,d,r,dp,rl,im⟩ s=(farM (s.reg d) dp,z)):=by
  unfold touchM
  rw [if_neg (by rw [hv];simp)]
  exact Lib.hid rfl
 rw [HQ.out]
 clear hm hv
 simp only [XI.agg,ST.agg,touV] at*
 go_enter Tryz.func34,Tryz.ntmps34
 go_upto_region 1 with fail
 refine wp_world (fun W1=>Hid (TSt w w.heap.size ⟨14,a,c,z,wd,sh,d,r,dp,rl,im⟩ s W1)) (by exact HE0.out _ _) ?_
 intro W1 HL
 clear HE0
 obtain ⟨c0,c1,c2,c3,c4,c5,c6,c7,c8,c9,c10⟩:=XI.at HL.out.x
 go_upto_region 3 with (go_at_call 33;(with_reducible refine (HV.out _ HL.out.fr).mono ?_);rintro e w2 ⟨rfl,hf2⟩;replace HL:=Lib.hid (HL.out.no hf2);clear hf2)
 clear c0 c1 c2 c3 c4 c5 c6 c7 c8 c9 c10
 obtain ⟨c0,c1,c2,c3,c4,c5,c6,c7,c8,c9,c10⟩:=XI.at HL.out.x
 obtain ⟨A,hA⟩:∃A,s.reg d=A:=⟨_,rfl⟩
 have HF:Hid (∀W,Calls Tryz.prog 36 #[.int .u64 A, .int .i32 dp] W fun e w'=>e= .returned (.int .u64 (farM A dp))∧W=w'):=fun W=>far_any A dp W hdp
 have rg:=HL.out.st.reg hd
 rw [hA] at rg
 have d1:(0:Int)≤(d:Int):=by omega
 have d2:(d:Int)<16:=by omega
 go_upto_region 7 with fail
 have H0:w2.drew.cell? ⟨w.heap.size,3,none⟩=some (Value.int .i64 z)∧w2.drew.cell? ⟨w.heap.size,6,none⟩=some (Value.int .i64 d)∧w2.drew.cell? ⟨w.heap.size,7,none⟩=some (Value.int .i64 r)∧w2.drew.cell? ⟨w.heap.size,8,none⟩=some (Value.int .i32 dp)∧w2.drew.cell? ⟨w.heap.size+1,d,none⟩=some (Value.int .u64 A):=⟨c3,c6,c7,c8,rg⟩
 go_region_held3 (fun W=>W.cell? ⟨w.heap.size,3,none⟩=some (Value.int .i64 z)∧W.cell? ⟨w.heap.size,6,none⟩=some (Value.int .i64 d)∧W.cell? ⟨w.heap.size,7,none⟩=some (Value.int .i64 r)∧W.cell? ⟨w.heap.size,8,none⟩=some (Value.int .i32 dp)∧W.cell? ⟨w.heap.size+1,d,none⟩=some (Value.int .u64 A)) (first|assumption|go_keep) (first|(go_at_call 36;(with_reducible refine (HF.out _).mono ?_);rintro e w5 ⟨rfl,rfl⟩))
 go_wp2_with fail
 go_ret2
 exact ⟨by rw [hA];rfl,HL.out.fr.drew⟩
theorem touch_17(a c z:Int)(wd sh:Bool)(d r:Nat)(dp rl im:Int)(s:ST)(w:World)(hs:s.ok)(hm:MachAt w)(hx:(Lit.int .i64 z).wf=true)(hd:d<16)(hr:r<16)(hdp: -2147483648≤dp∧dp≤2147483647)(hv:validM ⟨17,a,c,z,wd,sh,d,r,dp,rl,im⟩=true):
  Calls Tryz.prog 34 #[(XI.mk 17 a c z wd sh d r dp rl im).agg,s.agg] w fun e w'=>e= .returned (touV (touchM ⟨17,a,c,z,wd,sh,d,r,dp,rl,im⟩ s))∧Fr No w w':=by
 have HV:Hid (∀W,Fr No w W→Calls Tryz.prog 33 #[(XI.mk 17 a c z wd sh d r dp rl im).agg] W fun e w'=>e= .returned (.bool true)∧Fr No W w'):=fun W hW=>by rw [←hv];exact valid_any _ hx W (hm.fr hW)
 have HE0:Hid (∀t1 t2,_):=TSt.start (w:=w) (x:=⟨17,a,c,z,wd,sh,d,r,dp,rl,im⟩) hs
 have HQ:Hid (touchM ⟨17,a,c,z,wd,sh,d,r,dp,rl,im⟩ s=(farM (s.reg 4) (-8),8)):=by
  unfold touchM
  rw [if_neg (by rw [hv];simp)]
  exact Lib.hid rfl
 rw [HQ.out]
 clear hm hv
 simp only [XI.agg,ST.agg,touV] at*
 go_enter Tryz.func34,Tryz.ntmps34
 go_upto_region 1 with fail
 refine wp_world (fun W1=>Hid (TSt w w.heap.size ⟨17,a,c,z,wd,sh,d,r,dp,rl,im⟩ s W1)) (by exact HE0.out _ _) ?_
 intro W1 HL
 clear HE0
 obtain ⟨c0,c1,c2,c3,c4,c5,c6,c7,c8,c9,c10⟩:=XI.at HL.out.x
 go_upto_region 3 with (go_at_call 33;(with_reducible refine (HV.out _ HL.out.fr).mono ?_);rintro e w2 ⟨rfl,hf2⟩;replace HL:=Lib.hid (HL.out.no hf2);clear hf2)
 clear c0 c1 c2 c3 c4 c5 c6 c7 c8 c9 c10
 obtain ⟨c0,c1,c2,c3,c4,c5,c6,c7,c8,c9,c10⟩:=XI.at HL.out.x
 have rg:=HL.out.st.reg (i:=4) (by decide)
 have e8:IntKind.u64.wrap ((s.reg 4:Int)-8)=((farM (s.reg 4) (-8):Nat):Int):=by rw [IntKind.wrap_u64];unfold farM;omega
 go_wp2_with fail
 go_ret2
 exact ⟨rfl,HL.out.fr⟩
theorem touch_18(a c z:Int)(wd sh:Bool)(d r:Nat)(dp rl im:Int)(s:ST)(w:World)(hs:s.ok)(hm:MachAt w)(hx:(Lit.int .i64 z).wf=true)(hd:d<16)(hr:r<16)(hdp: -2147483648≤dp∧dp≤2147483647)(hv:validM ⟨18,a,c,z,wd,sh,d,r,dp,rl,im⟩=true):
  Calls Tryz.prog 34 #[(XI.mk 18 a c z wd sh d r dp rl im).agg,s.agg] w fun e w'=>e= .returned (touV (touchM ⟨18,a,c,z,wd,sh,d,r,dp,rl,im⟩ s))∧Fr No w w':=by
 have HV:Hid (∀W,Fr No w W→Calls Tryz.prog 33 #[(XI.mk 18 a c z wd sh d r dp rl im).agg] W fun e w'=>e= .returned (.bool true)∧Fr No W w'):=fun W hW=>by rw [←hv];exact valid_any _ hx W (hm.fr hW)
 have HE0:Hid (∀t1 t2,_):=TSt.start (w:=w) (x:=⟨18,a,c,z,wd,sh,d,r,dp,rl,im⟩) hs
 have HQ:Hid (touchM ⟨18,a,c,z,wd,sh,d,r,dp,rl,im⟩ s=(s.reg 4,8)):=by
  unfold touchM
  rw [if_neg (by rw [hv];simp)]
  exact Lib.hid rfl
 rw [HQ.out]
 clear hm hv
 simp only [XI.agg,ST.agg,touV] at*
 go_enter Tryz.func34,Tryz.ntmps34
 go_upto_region 1 with fail
 refine wp_world (fun W1=>Hid (TSt w w.heap.size ⟨18,a,c,z,wd,sh,d,r,dp,rl,im⟩ s W1)) (by exact HE0.out _ _) ?_
 intro W1 HL
 clear HE0
 obtain ⟨c0,c1,c2,c3,c4,c5,c6,c7,c8,c9,c10⟩:=XI.at HL.out.x
 go_upto_region 3 with (go_at_call 33;(with_reducible refine (HV.out _ HL.out.fr).mono ?_);rintro e w2 ⟨rfl,hf2⟩;replace HL:=Lib.hid (HL.out.no hf2);clear hf2)
 clear c0 c1 c2 c3 c4 c5 c6 c7 c8 c9 c10
 obtain ⟨c0,c1,c2,c3,c4,c5,c6,c7,c8,c9,c10⟩:=XI.at HL.out.x
 have rg:=HL.out.st.reg (i:=4) (by decide)
 go_wp2_with fail
 go_ret2
 exact ⟨rfl,HL.out.fr⟩
theorem touch_19(a c z:Int)(wd sh:Bool)(d r:Nat)(dp rl im:Int)(s:ST)(w:World)(hs:s.ok)(hm:MachAt w)(hx:(Lit.int .i64 z).wf=true)(hd:d<16)(hr:r<16)(hdp: -2147483648≤dp∧dp≤2147483647)(hv:validM ⟨19,a,c,z,wd,sh,d,r,dp,rl,im⟩=true):
  Calls Tryz.prog 34 #[(XI.mk 19 a c z wd sh d r dp rl im).agg,s.agg] w fun e w'=>e= .returned (touV (touchM ⟨19,a,c,z,wd,sh,d,r,dp,rl,im⟩ s))∧Fr No w w':=by
 have HV:Hid (∀W,Fr No w W→Calls Tryz.prog 33 #[(XI.mk 19 a c z wd sh d r dp rl im).agg] W fun e w'=>e= .returned (.bool true)∧Fr No W w'):=fun W hW=>by rw [←hv];exact valid_any _ hx W (hm.fr hW)
 have HE0:Hid (∀t1 t2,_):=TSt.start (w:=w) (x:=⟨19,a,c,z,wd,sh,d,r,dp,rl,im⟩) hs
 have HQ:Hid (touchM ⟨19,a,c,z,wd,sh,d,r,dp,rl,im⟩ s=(s.reg 4,8)):=by
  unfold touchM
  rw [if_neg (by rw [hv];simp)]
  exact Lib.hid rfl
 rw [HQ.out]
 clear hm hv
 simp only [XI.agg,ST.agg,touV] at*
 go_enter Tryz.func34,Tryz.ntmps34
 go_upto_region 1 with fail
 refine wp_world (fun W1=>Hid (TSt w w.heap.size ⟨19,a,c,z,wd,sh,d,r,dp,rl,im⟩ s W1)) (by exact HE0.out _ _) ?_
 intro W1 HL
 clear HE0
 obtain ⟨c0,c1,c2,c3,c4,c5,c6,c7,c8,c9,c10⟩:=XI.at HL.out.x
 go_upto_region 3 with (go_at_call 33;(with_reducible refine (HV.out _ HL.out.fr).mono ?_);rintro e w2 ⟨rfl,hf2⟩;replace HL:=Lib.hid (HL.out.no hf2);clear hf2)
 clear c0 c1 c2 c3 c4 c5 c6 c7 c8 c9 c10
 obtain ⟨c0,c1,c2,c3,c4,c5,c6,c7,c8,c9,c10⟩:=XI.at HL.out.x
 have rg:=HL.out.st.reg (i:=4) (by decide)
 go_wp2_with fail
 go_ret2
 exact ⟨rfl,HL.out.fr⟩
theorem touch_else(k a c z:Int)(wd sh:Bool)(d r:Nat)(dp rl im:Int)(s:ST)(w:World)(hs:s.ok)(hm:MachAt w)(hx:(Lit.int .i64 z).wf=true)(hd:d<16)(hr:r<16)(hdp: -2147483648≤dp∧dp≤2147483647)(k13:k≠13)(k14:k≠14)(k17:k≠17)(k18:k≠18)(k19:k≠19)(hv:validM ⟨k,a,c,z,wd,sh,d,r,dp,rl,im⟩=true):
  Calls Tryz.prog 34 #[(XI.mk k a c z wd sh d r dp rl im).agg,s.agg] w fun e w'=>e= .returned (touV (touchM ⟨k,a,c,z,wd,sh,d,r,dp,rl,im⟩ s))∧Fr No w w':=by
 have HV:Hid (∀W,Fr No w W→Calls Tryz.prog 33 #[(XI.mk k a c z wd sh d r dp rl im).agg] W fun e w'=>e= .returned (.bool true)∧Fr No W w'):=fun W hW=>by rw [←hv];exact valid_any _ hx W (hm.fr hW)
 have HE0:Hid (∀t1 t2,_):=TSt.start (w:=w) (x:=⟨k,a,c,z,wd,sh,d,r,dp,rl,im⟩) hs
 have HQ:Hid (touchM ⟨k,a,c,z,wd,sh,d,r,dp,rl,im⟩ s=(0,0)):=by
  unfold touchM
  rw [if_neg (by rw [hv];simp)]
  simp only [k13,k14,k17,k18,k19,if_false,or_self]
  exact Lib.hid trivial
 rw [HQ.out]
 clear hm hv
 simp only [XI.agg,ST.agg,touV] at*
 go_enter Tryz.func34,Tryz.ntmps34
 go_upto_region 1 with fail
 refine wp_world (fun W1=>Hid (TSt w w.heap.size ⟨k,a,c,z,wd,sh,d,r,dp,rl,im⟩ s W1)) (by exact HE0.out _ _) ?_
 intro W1 HL
 clear HE0
 obtain ⟨c0,c1,c2,c3,c4,c5,c6,c7,c8,c9,c10⟩:=XI.at HL.out.x
 go_upto_region 3 with (go_at_call 33;(with_reducible refine (HV.out _ HL.out.fr).mono ?_);rintro e w2 ⟨rfl,hf2⟩;replace HL:=Lib.hid (HL.out.no hf2);clear hf2)
 clear c0 c1 c2 c3 c4 c5 c6 c7 c8 c9 c10
 obtain ⟨c0,c1,c2,c3,c4,c5,c6,c7,c8,c9,c10⟩:=XI.at HL.out.x
 have e13:(k==13)=false:=by rw [beq_eq_false_iff_ne];exact k13
 have e14:(k==14)=false:=by rw [beq_eq_false_iff_ne];exact k14
 have e17:(k==17)=false:=by rw [beq_eq_false_iff_ne];exact k17
 have e18:(k==18)=false:=by rw [beq_eq_false_iff_ne];exact k18
 have e19:(k==19)=false:=by rw [beq_eq_false_iff_ne];exact k19
 clear k13 k14 k17 k18 k19
 go_wp2_with fail
 go_ret2
 exact ⟨rfl,HL.out.fr⟩
theorem touch_not(x:XI)(s:ST)(w:World)(hs:s.ok)(hm:MachAt w)(hx:(Lit.int .i64 x.size).wf=true)(hv:validM x=false):
  Calls Tryz.prog 34 #[x.agg,s.agg] w fun e w'=>e= .returned (touV (0,0))∧Fr No w w':=by
 have HV:Hid (∀W,Fr No w W→Calls Tryz.prog 33 #[x.agg] W fun e w'=>e= .returned (.bool false)∧Fr No W w'):=fun W hW=>by rw [←hv];exact valid_any x hx W (hm.fr hW)
 have HE0:Hid (∀t1 t2,_):=TSt.start (w:=w) (x:=x) hs
 clear hm hv
 obtain ⟨k,a,c,z,wd,sh,d,r,dp,rl,im⟩:=x
 simp only [XI.agg,ST.agg,touV] at*
 go_enter Tryz.func34,Tryz.ntmps34
 go_upto_region 1 with fail
 refine wp_world (fun W1=>Hid (TSt w w.heap.size ⟨k,a,c,z,wd,sh,d,r,dp,rl,im⟩ s W1)) (by exact HE0.out _ _) ?_
 intro W1 HL
 clear HE0
 obtain ⟨c0,c1,c2,c3,c4,c5,c6,c7,c8,c9,c10⟩:=XI.at HL.out.x
 go_wp2_with (go_at_call 33;(with_reducible refine (HV.out _ HL.out.fr).mono ?_);rintro e w2 ⟨rfl,hf2⟩;replace HL:=Lib.hid (HL.out.no hf2);clear hf2)
 go_ret2
 exact ⟨rfl,HL.out.fr⟩
theorem touch_any(x:XI)(s:ST)(w:World)(hx:x.ok)(hs:s.ok)(hm:MachAt w):
  Calls Tryz.prog 34 #[x.agg,s.agg] w fun e w'=>e= .returned (touV (touchM x s))∧Fr No w w':=by
 cases hv:validM x with
 |false=>
  rw [show touchM x s=(0,0) by unfold touchM;rw [if_pos hv]]
  exact touch_not x s w hs hm (i64_wf hx.size) hv
 |true=>
  obtain ⟨k,hk1,hk2,hk,hmx⟩:=valid_may hv
  obtain ⟨d,r,hd,hr,ed,er⟩:=hmx.regs
  have wz:=i64_wf hx.size
  have hdp:=hx.disp
  clear hmx hx
  obtain ⟨kk,a,c,z,wd,sh,dd,rr,dp,rl,im⟩:=x
  simp only at hk ed er wz hdp
  subst ed er
  by_cases k13:kk=13
  ·subst k13;exact touch_13 a c z wd sh d r dp rl im s w hs hm wz hd hr hdp hv
  by_cases k14:kk=14
  ·subst k14;exact touch_14 a c z wd sh d r dp rl im s w hs hm wz hd hr hdp hv
  by_cases k17:kk=17
  ·subst k17;exact touch_17 a c z wd sh d r dp rl im s w hs hm wz hd hr hdp hv
  by_cases k18:kk=18
  ·subst k18;exact touch_18 a c z wd sh d r dp rl im s w hs hm wz hd hr hdp hv
  by_cases k19:kk=19
  ·subst k19;exact touch_19 a c z wd sh d r dp rl im s w hs hm wz hd hr hdp hv
  exact touch_else kk a c z wd sh d r dp rl im s w hs hm wz hd hr hdp k13 k14 k17 k18 k19 hv
theorem mread_lt(m:List Reg)(addr:Nat)(n:Int):(mread m addr n).1<18446744073709551616:=by
 unfold mread
 split
 ·rename_i hn
  have h8:=(sizeOk_iff n).1 hn
  refine Nat.lt_of_lt_of_le (leNum_lt _) ?_
  refine Nat.le_trans (Nat.pow_le_pow_right (by decide) (show _≤8 from ?_)) (by decide)
  unfold mtext
  split
  ·simp
  ·split
   ·simp
   ·split
    ·simp
    ·rename_i i _
     cases m[i]? with
     |none=>simp
     |some r=>
      simp only [Option.map_some,Option.getD_some,Reg.cut,List.length_take]
      omega
 ·decide
def TouTo(w0:World)(N:Nat)(bw mb:Nat)(ds:List MapD)(p:Nat)(RL:List Reg)(W:HW)(g:Nat)(s:ST)(wr w':World):Prop:=
 Hid (WM w0 N bw mb ds p RL W w')∧Hid (SAt w' g s)∧Hid (Fr (fun k=>Zof w0 N k∨k=g) wr w')
theorem pop_any{w0 wr:World}{N:Nat}{bw mb p:Nat}{ds:List MapD}{RL:List Reg}{W:HW}(h:WM w0 N bw mb ds p RL W wr)(addr g:Nat)(s:ST)(hs:SAt wr g s)(hg:N≤g)(ha:addr<18446744073709551616):
  Calls Tryz.prog 181 #[.pointer (some ⟨bw,0,none⟩), .int .u64 addr, .pointer (some ⟨g,0,none⟩)] wr fun e w'=>e= .returned (.tuple #[.int .u64 (mread W.m addr 8).1, .int .i64 (mread W.m addr 8).2])∧TouTo w0 N bw mb ds p RL W g (s.set 4 (farM (s.reg 4) 8)) wr w':=by
 have HM:=Lib.hid h.memory
 have HR:=Lib.hid (h.read addr 8 ha)
 have HW:=Lib.hid h
 have HS:=Lib.hid hs
 have e8:IntKind.u64.wrap ((s.reg 4:Int)+8)=((farM (s.reg 4) 8:Nat):Int):=by rw [IntKind.wrap_u64];unfold farM;omega
 have HE:Hid (∀W',SAt W' g s→SAt (W'.setCell ⟨g,4,none⟩ (.int .u64 (farM (s.reg 4) 8))) g (s.set 4 (farM (s.reg 4) 8))):=fun W' h=>h.setReg (by decide) (farM_lt _ _)
 have HG:=Lib.hid hg
 clear h hs ha hg
 generalize (mread W.m addr 8).1=V at*
 generalize (mread W.m addr 8).2=E at*
 generalize farM (s.reg 4) 8=F at*
 go_enter Tryz.func181,Tryz.ntmps181
 go_wp2_with (first
  |(go_at_call 10;(with_reducible refine (HM.out).mono ?_);rintro e w1 ⟨rfl,rfl⟩)
  |(go_at_call 177;(with_reducible refine (HR.out).mono ?_);rintro e w2 ⟨rfl,hf2⟩;have rg:=(HS.out.fr hf2 id).reg (i:=4) (by decide);have oo:=(HS.out.fr hf2 id).open_))
 go_region
 go_wp2_with fail
 go_ret2
 have hf2':=hf2
 refine ⟨rfl,?_,?_,?_⟩
 ·exact ((HW.out.to hf2).beside (((Fr.refl (fun k=>k=g) w2)).setCell (p:=⟨g,4,none⟩) (.inr rfl) _) (fun k hk=>by rw [hk];exact HG.out)).to ((Fr.refl _ _).drew)
 ·exact (HE.out _ (HS.out.fr hf2 id)).fr (T:=No) ((Fr.refl _ _).drew) id
 ·exact (((hf2.any:Fr (fun k=>Zof w0 N k∨k=g) wr w2)).setCell (p:=⟨g,4,none⟩) (.inr (.inr rfl)) _).drew
end Go.Proofs.YtjcgmhlbkheadaaGreatDoor
