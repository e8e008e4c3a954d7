/- (*World).Copy. a world behind Copy. A world stays behind what changes no block of its own. (*World).Own. helpers.Args: the map of how many arguments helpers have. (*World).Call. (*World).Call, the .. -/
import Derived.Test.YtfmcmfiebehhiaaGreatDoorCore14
import Derived.Test.YtfmcmfiebehhiaaGreatDoorCore8
import Derived.Deep.RegionHeld3
import Derived.Deep.DeepCutAuto
import Derived.Deep.RegionWith
import Derived.Test.YtfmcmfiebehhiaaGreatDoorCore11
import Derived.Maps.OwnSet
set_option linter.all false
set_option linter.unusedVariables false
set_option linter.unusedSimpArgs false
set_option maxRecDepth 100000
set_option maxHeartbeats 4000000
namespace Go.Proofs.YtfmcmfiebehhiaaGreatDoor
open Go.Proofs.Tryz
open Go.RowKit
theorem copied_on{w0 wr w2:World}{b mb mb2:Nat}{S:List Tab}{m:List Reg}{A H T T2:Nat→Prop}(h:KSt w0 b mb S m A H T wr)(hb:∀k,A k∨H k∨T k→k<wr.heap.size)(hf1:Fr No wr w2)(hm1:MemAt w2 mb2 m T2)(hT2:∀k,T2 k→wr.heap.size≤k∧k<w2.heap.size)(hok:MemOk m)
  (hh:holdsB (mregsOf (S.map (·.d))) m=true):
  Calls prog 111 #[.pointer (some ⟨b,0,none⟩), .pointer (some ⟨mb2,0,none⟩)] w2 fun e w'=>∃b2 A2 H2,e= .returned (.pointer (some ⟨b2,0,none⟩))∧Hid (KSt w0 b2 mb2 S m A2 H2 T2 w'∧Fr No w2 w'∧(∀k,A2 k→A k∨w2.heap.size≤k)∧(∀k,H2 k→w2.heap.size≤k)∧(∀k,A2 k∨H2 k∨T2 k→k<w'.heap.size)):=by
 refine (mcopy_any (h.maps.no hf1) hm1 hok).mono ?_
 intro e w' hq
 unfold CopyQ at hq
 rw [if_pos hh] at hq
 obtain ⟨b2,he,⟨A2,H2,ha,hA,hH⟩,hf⟩:=hq
 have s0:=h.fr.size
 have s1:=hf1.size
 have s2:=hf.size
 refine ⟨b2,A2,H2,he,⟨ha,hm1.fr hf (fun _ _=>id),fun k hk=>⟨fun hk2=> ?_,fun hk2=> ?_⟩,h.hold,(h.fr.trans hf1).trans hf,fun k hk=> ?_⟩,hf,(fun k hk=> ?_),(fun k hk=>(hH k hk).1),(fun k hk=> ?_)⟩
 ·have t:=hT2 k hk
  rcases hA k hk2 with h1|h1
  ·omega
  ·have:=hb k (.inl h1);omega
 ·have:=hH k hk2
  have:=hT2 k hk
  omega
 ·show w0.heap.size≤k
  rcases hk with hk|hk
  ·have:=hH k hk
   omega
  ·have:=hT2 k hk
   omega
 ·rcases hA k hk with h1|h1
  ·exact .inr h1.1
  ·exact .inl h1
 ·rcases hk with hk|hk|hk
  ·rcases hA k hk with h1|h1
   ·exact h1.2
   ·have:=hb k (.inl h1);omega
  ·exact (hH k hk).2
  ·have:=hT2 k hk
   omega
def CopyW(w0 w:World)(b:Nat)(S:List Tab)(m:List Reg)(A:Nat→Prop)(mv ov dv:Value)(p:Int)(w':World):Prop:=
 ∃mb2 b2 A2 H2 T2 W2 w3,Fr No w W2∧Fr No W2 w3∧w.heap.size<W2.heap.size∧(∀k,T2 k→w.heap.size<k)∧KSt w0 b2 mb2 S m A2 H2 T2 w3∧(∀k,A2 k→A k∨W2.heap.size≤k)∧(∀k,H2 k→W2.heap.size≤k)∧(∀k,A2 k∨H2 k∨T2 k→k<w3.heap.size)
  ∧w'=w3.setCell ⟨w.heap.size,5,none⟩ (.pointer (some ⟨b2,0,none⟩))
  ∧(w3.cell? ⟨w.heap.size,0,none⟩=some (.bool true)∧w3.cell? ⟨w.heap.size,1,none⟩=some mv∧w3.cell? ⟨w.heap.size,2,none⟩=some (.int .i64 p)∧w3.cell? ⟨w.heap.size,3,none⟩=some ov∧w3.cell? ⟨w.heap.size,4,none⟩=some (.pointer (some ⟨mb2,0,none⟩))∧w3.cell? ⟨w.heap.size,5,none⟩=some (.pointer (some ⟨b,0,none⟩))∧w3.cell? ⟨w.heap.size,6,none⟩=some dv)∧∀j,w3.frozen? ⟨w.heap.size,j,none⟩=false
theorem frozen_far{w w':World}{g j:Nat}(hf:Fr No w w')(hg:g<w.heap.size)(h:w.frozen? ⟨g,j,none⟩=false):w'.frozen? ⟨g,j,none⟩=false:=by
 have hb:=hf.block g hg (fun h=>h)
 unfold World.frozen? at h ⊢
 rw [hb]
 exact h
theorem wcopy_walk(bw b mb:Nat)(mv ov dv:Value)(p:Int)(w:World)(am ao ad:Option Addr)(nm cm no co nd cd:Nat)(hmv:mv= .slice am nm cm)(hov:ov= .slice ao no co)(hdv:dv= .slice ad nd cd)
  (c0:w.cell? ⟨bw,0,none⟩=some (.bool true)) (c1:w.cell? ⟨bw,1,none⟩=some mv) (c2:w.cell? ⟨bw,2,none⟩=some (.int .i64 p)) (c3:w.cell? ⟨bw,3,none⟩=some ov) (c4:w.cell? ⟨bw,4,none⟩=some (.pointer (some ⟨mb,0,none⟩))) (c5:w.cell? ⟨bw,5,none⟩=some (.pointer (some ⟨b,0,none⟩))) (c6:w.cell? ⟨bw,6,none⟩=some dv)
  (w0:World) (S:List Tab) (m:List Reg) (A:Nat→Prop)
  (hmc:∀W,Fr No w W→Calls prog 95 #[.pointer (some ⟨mb,0,none⟩)] W fun e w'=>∃mb2,e= .returned (.pointer (some ⟨mb2,0,none⟩))∧Hid (Fr No W w'∧MemAt w' mb2 m (Made W w')))
  (hxc:∀W mb2 T2,Fr No w W→MemAt W mb2 m T2→(∀k,T2 k→w.heap.size≤k∧k<W.heap.size)→Calls prog 111 #[.pointer (some ⟨b,0,none⟩), .pointer (some ⟨mb2,0,none⟩)] W fun e w'=>∃b2 A2 H2,e= .returned (.pointer (some ⟨b2,0,none⟩))∧Hid (KSt w0 b2 mb2 S m A2 H2 T2 w'∧Fr No W w'∧(∀k,A2 k→A k∨W.heap.size≤k)∧(∀k,H2 k→W.heap.size≤k)∧(∀k,A2 k∨H2 k∨T2 k→k<w'.heap.size))):
  Calls prog 72 #[.pointer (some ⟨bw,0,none⟩)] w fun e w'=>e= .returned (.pointer (some ⟨w.heap.size,0,none⟩))∧Hid (CopyW w0 w b S m A mv ov dv p w'):=by
 subst hmv
 subst hov
 subst hdv
 have HN:=hnone_hid bw w c0
 have hlt:bw<w.heap.size:=World.block_lt_of_cell? w ⟨bw,0,none⟩ c0
 have hne1:¬bw=w.heap.size:=by omega
 have hne2:¬w.heap.size=bw:=by omega
 clear hlt
 have HMC:=Lib.hid hmc
 have HXC:=Lib.hid hxc
 have M4:Hid (∀W,Fr No w W→W.cell? ⟨bw,4,none⟩=some (.pointer (some ⟨mb,0,none⟩))∧W.cell? ⟨bw,5,none⟩=some (.pointer (some ⟨b,0,none⟩))):=fun W hW=>⟨hW.cell c4 (fun h=>h),hW.cell c5 (fun h=>h)⟩
 clear hmc hxc
 go_enter func72,ntmps72
 go_upto_region 4 with (first
  |(go_at_call 32;(with_reducible refine (HN.out).mono ?_);rintro e w1 ⟨rfl,rfl⟩))
 obtain ⟨W0,hW0⟩:∃W0,W0=w.alloc (.cells #[.bool true, .slice am nm cm, .int .i64 p, .slice ao no co, .pointer (some ⟨mb,0,none⟩), .pointer (some ⟨b,0,none⟩), .slice ad nd cd] 35):=⟨_,rfl⟩
 have HF0:Hid (Fr No w W0):=by rw [hW0];exact Lib.hid ((Fr.refl _ _).alloc _)
 have HS0:Hid (W0.heap.size=w.heap.size+1):=by rw [hW0];exact Lib.hid (by simp only [World.alloc,Array.size_push])
 have HCB:Hid (CellsAt W0 w.heap.size 0 [.bool true, .slice am nm cm, .int .i64 p, .slice ao no co, .pointer (some ⟨mb,0,none⟩), .pointer (some ⟨b,0,none⟩), .slice ad nd cd]):=by rw [hW0];exact Lib.hid (CellsAt.new w _ _)
 have HFZ:Hid (∀j,W0.frozen? ⟨w.heap.size,j,none⟩=false):=by rw [hW0];exact Lib.hid (fun j=>World.frozen?_alloc_new _ _ _ _)
 obtain ⟨n4,n5⟩:=M4.out W0 HF0.out
 rw [←hW0]
 clear hW0 c0 c1 c2 c3 c4 c5 c6 HN
 have HZ4:Hid (∀W,Fr No W0 W→W.cell? ⟨w.heap.size,4,none⟩=some (.pointer (some ⟨mb,0,none⟩))∧W.frozen? ⟨w.heap.size,4,none⟩=false):=fun W hW=>by
  have c:=HCB.out 4 _ rfl
  rw [Nat.zero_add] at c
  exact ⟨hW.cell c (fun h=>h),by rw [hW.frozen c (fun h=>h)];exact HFZ.out 4⟩
 go_upto_region 5 with (go_at_call 95;(with_reducible refine (HMC.out _ HF0.out).mono ?_);rintro e w1 ⟨mb2,rfl,h1⟩;obtain ⟨z4,fz4⟩:=HZ4.out w1 h1.out.1)
 obtain ⟨W2,hW2⟩:∃W2,W2=w1.setCell ⟨w.heap.size,4,none⟩ (.pointer (some ⟨mb2,0,none⟩)):=⟨_,rfl⟩
 have HFB:Hid (Fr (fun k=>k=w.heap.size) w1 W2):=by rw [hW2];exact Lib.hid ((Fr.refl (fun k=>k=w.heap.size) w1).setCell (p:=⟨w.heap.size,4,none⟩) (.inr rfl) _)
 have HC1:Hid (CellsAt w1 w.heap.size 0 [.bool true, .slice am nm cm, .int .i64 p, .slice ao no co, .pointer (some ⟨mb,0,none⟩), .pointer (some ⟨b,0,none⟩), .slice ad nd cd]):=h1.out.1.cells HCB.out (fun h=>h)
 have HC2:Hid (W2.cell? ⟨w.heap.size,0,none⟩=some (.bool true)∧W2.cell? ⟨w.heap.size,1,none⟩=some (.slice am nm cm)∧W2.cell? ⟨w.heap.size,2,none⟩=some (.int .i64 p)∧W2.cell? ⟨w.heap.size,3,none⟩=some (.slice ao no co)∧W2.cell? ⟨w.heap.size,4,none⟩=some (.pointer (some ⟨mb2,0,none⟩))∧W2.cell? ⟨w.heap.size,5,none⟩=some (.pointer (some ⟨b,0,none⟩))∧W2.cell? ⟨w.heap.size,6,none⟩=some (.slice ad nd cd)):=by
  have cs:∀j v,j≠4→w1.cell? ⟨w.heap.size,j,none⟩=some v→W2.cell? ⟨w.heap.size,j,none⟩=some v:=fun j v hj hcell=>by
   rw [hW2,World.cell?_setCell_other _ _ _ _ (by intro e;simp only [Addr.mk.injEq] at e;omega)]
   exact hcell
  have c:=fun j u (h:([.bool true, .slice am nm cm, .int .i64 p, .slice ao no co, .pointer (some ⟨mb,0,none⟩), .pointer (some ⟨b,0,none⟩), .slice ad nd cd]:List Value)[j]? =some u)=>HC1.out j u h
  simp only [Nat.zero_add] at c
  exact ⟨cs 0 _ (by decide) (c 0 _ rfl),cs 1 _ (by decide) (c 1 _ rfl),cs 2 _ (by decide) (c 2 _ rfl),cs 3 _ (by decide) (c 3 _ rfl),by rw [hW2];exact World.cell?_setCell_same _ _ _ (c 4 _ rfl),cs 5 _ (by decide) (c 5 _ rfl),cs 6 _ (by decide) (c 6 _ rfl)⟩
 have HZ2:Hid (∀j,W2.frozen? ⟨w.heap.size,j,none⟩=false):=fun j=>by
  rw [hW2,World.frozen?_setCell]
  exact frozen_far h1.out.1 (by have:=HS0.out;omega) (HFZ.out j)
 have HW2:Hid (Fr No w W2):=(((HF0.out.trans h1.out.1).any.trans (HFB.out.mono fun k _ hk=>by show w.heap.size≤k;omega)):Fr (From w) w W2).ours
 have HT:Hid (∀k,Made W0 w1 k→w.heap.size<k):=fun k hk=>by have:=hk.1;have:=HS0.out;omega
 have HM2:Hid (MemAt W2 mb2 m (Made W0 w1)):=h1.out.2.fr HFB.out (fun k hk e=>by have:=HT.out k hk;omega)
 have HT2:Hid (∀k,Made W0 w1 k→w.heap.size≤k∧k<W2.heap.size):=fun k hk=>⟨Nat.le_of_lt (HT.out k hk),Nat.lt_of_lt_of_le hk.2 HFB.out.size⟩
 have HSZ:Hid (w.heap.size<W2.heap.size):=by have h2:=HFB.out.size;have h3:=h1.out.1.size;have h4:=HS0.out;exact Lib.hid (by omega)
 have H0:W2.drew.cell? ⟨bw,5,none⟩=some (.pointer (some ⟨b,0,none⟩))∧W2.drew.cell? ⟨w.heap.size,4,none⟩=some (.pointer (some ⟨mb2,0,none⟩)):=⟨(M4.out W2 HW2.out).2,HC2.out.2.2.2.2.1⟩
 have HK:Hid (∀W,Fr No W2 W→W.cell? ⟨bw,5,none⟩=some (.pointer (some ⟨b,0,none⟩))∧W.cell? ⟨w.heap.size,4,none⟩=some (.pointer (some ⟨mb2,0,none⟩))):=fun W hW=>⟨(M4.out W (HW2.out.trans hW)).2,hW.cell HC2.out.2.2.2.2.1 (fun h=>h)⟩
 have HKS:Hid (∀(W:World) (v:Value),(W.cell? ⟨bw,5,none⟩=some (.pointer (some ⟨b,0,none⟩))∧W.cell? ⟨w.heap.size,4,none⟩=some (.pointer (some ⟨mb2,0,none⟩)))→((W.setCell ⟨w.heap.size,5,none⟩ v).cell? ⟨bw,5,none⟩=some (.pointer (some ⟨b,0,none⟩))∧(W.setCell ⟨w.heap.size,5,none⟩ v).cell? ⟨w.heap.size,4,none⟩=some (.pointer (some ⟨mb2,0,none⟩)))):=fun W v h=>by
  constructor
  ·rw [World.cell?_setCell_other _ _ _ _ (by intro e;simp only [Addr.mk.injEq] at e;exact hne1 (by omega))];exact h.1
  ·rw [World.cell?_setCell_other _ _ _ _ (by intro e;simp only [Addr.mk.injEq] at e;omega)];exact h.2
 rw [←hW2]
 clear hW2 n4 n5 z4 fz4 h1
 have HC5:Hid (∀W,Fr No W2 W→W.cell? ⟨w.heap.size,5,none⟩=some (.pointer (some ⟨b,0,none⟩))∧W.frozen? ⟨w.heap.size,5,none⟩=false):=fun W hW=>⟨hW.cell HC2.out.2.2.2.2.2.1 (fun h=>h),by rw [hW.frozen HC2.out.2.2.2.2.2.1 (fun h=>h)];exact HZ2.out 5⟩
 have HXD:Hid (Calls prog 111 #[.pointer (some ⟨b,0,none⟩), .pointer (some ⟨mb2,0,none⟩)] W2.drew fun e w'=>∃b2 A2 H2,e= .returned (.pointer (some ⟨b2,0,none⟩))∧Hid (KSt w0 b2 mb2 S m A2 H2 (Made W0 w1) w'∧Fr No W2.drew w'∧(∀k,A2 k→A k∨W2.drew.heap.size≤k)∧(∀k,H2 k→W2.drew.heap.size≤k)∧(∀k,A2 k∨H2 k∨Made W0 w1 k→k<w'.heap.size))):=
  HXC.out W2.drew mb2 (Made W0 w1) HW2.out.drew (HM2.out.fr ((Fr.refl No W2).drew) (fun _ _ h=>h)) HT2.out
 go_region_held3 (fun W=>W.cell? ⟨bw,5,none⟩=some (.pointer (some ⟨b,0,none⟩))∧W.cell? ⟨w.heap.size,4,none⟩=some (.pointer (some ⟨mb2,0,none⟩))) (first|assumption|exact HK.out _ (by assumption)|exact HKS.out _ _ (by assumption)|exact HKS.out _ _ (HK.out _ (by assumption)))
  (first
   |(go_at_call 111;(with_reducible refine (HXD.out).mono ?_);rintro e w3 ⟨b2,A2,H2,rfl,h3⟩;have hf3:=((Fr.refl No W2).drew).trans h3.out.2.1;obtain ⟨z5,fz5⟩:=HC5.out w3 hf3))
 go_wp2_with fail
 go_ret
 refine ⟨rfl,mb2,b2,A2,H2,Made W0 w1,W2,w3,HW2.out,hf3,HSZ.out,HT.out,h3.out.1,h3.out.2.2.1,h3.out.2.2.2.1,h3.out.2.2.2.2,rfl,?_,fun j=> ?_⟩
 ·obtain ⟨e0,e1,e2,e3,e4,e5,e6⟩:=HC2.out
  exact ⟨hf3.cell e0 (fun h=>h),hf3.cell e1 (fun h=>h),hf3.cell e2 (fun h=>h),hf3.cell e3 (fun h=>h),hf3.cell e4 (fun h=>h),hf3.cell e5 (fun h=>h),hf3.cell e6 (fun h=>h)⟩
 ·exact frozen_far hf3 HSZ.out (HZ2.out j)
theorem RegsAt.form'{w:World}{v:Value}{l:List Reg}(h:RegsAt w v l):∃a n c,v= .slice a n c:=by
 rcases h.2 with ⟨_,a,c,rfl⟩|⟨g,off,cap,rfl,_⟩
 ·exact ⟨_,_,_,rfl⟩
 ·exact ⟨_,_,_,rfl⟩
theorem WAt.copied{w0 wr w':World}{bw b mb p ds RL D S m A H T}{mv ov dv:Value}(h:WAt w0 bw b mb ds p RL D S m A H T mv ov dv wr)(hc:CopyW w0 wr b S m A mv ov dv p w'):
  ∃b2 mb2 A2 H2 T2,WAt w0 wr.heap.size b2 mb2 ds p RL D S m A2 H2 T2 mv ov dv w'∧Fr No wr w'∧(∀k,H2 k∨T2 k→wr.heap.size≤k)∧∀k,A2 k→A k∨wr.heap.size≤k:=by
 obtain ⟨mb2,b2,A2,H2,T2,W2,w3,f2,f3,hsz,hT,hk,hA,hH,hlt,rfl,⟨e0,e1,e2,e3,e4,e5,e6⟩,hz⟩:=hc
 have hf3:Fr No wr w3:=f2.trans f3
 obtain ⟨W,hW⟩:∃W,W=w3.setCell ⟨wr.heap.size,5,none⟩ (.pointer (some ⟨b2,0,none⟩)):=⟨_,rfl⟩
 have hf:Fr (fun k=>k=wr.heap.size) w3 W:=by rw [hW];exact (Fr.refl (fun k=>k=wr.heap.size) w3).setCell (p:=⟨wr.heap.size,5,none⟩) (.inr rfl) _
 have cs:∀j v,j≠5→w3.cell? ⟨wr.heap.size,j,none⟩=some v→W.cell? ⟨wr.heap.size,j,none⟩=some v:=fun j v hj hcell=>by
  rw [hW,World.cell?_setCell_other _ _ _ _ (by intro e;simp only [Addr.mk.injEq] at e;omega)]
  exact hcell
 have hfr:Fr No wr W:=((hf3.any.trans (hf.mono fun k _ hk=>by show wr.heap.size≤k;omega)):Fr (From wr) wr W).ours
 have nA:∀k,A2 k→k≠wr.heap.size:=fun k hk'=>by
  rcases hA k hk' with h1|h1
  ·have:=h.lt k (.inl h1);omega
  ·omega
 have nH:∀k,H2 k→k≠wr.heap.size:=fun k hk'=>by have:=hH k hk';omega
 have nT:∀k,T2 k→k≠wr.heap.size:=fun k hk'=>by have:=hT k hk';omega
 have ap:∀v,(∀k,v.ownBlock=some k→k<wr.heap.size)→Apart (fun k=>H2 k∨T2 k∨k=wr.heap.size) v:=fun v hv k hk'=>by
  have:=hv k hk'
  rintro (h1|h1|h1)
  ·have:=hH k h1;omega
  ·have:=hT k h1;omega
  ·omega
 have apB:∀v,(∀k,v.ownBlock=some k→k<wr.heap.size)→Apart (fun k=>k=wr.heap.size) v:=fun v hv k hk' e=>by have:=hv k hk';omega
 have lm:∀k,mv.ownBlock=some k→k<wr.heap.size:=fun k hk'=>h.ltv k (.inl hk')
 have lo':∀k,ov.ownBlock=some k→k<wr.heap.size:=fun k hk'=>h.ltv k (.inr (.inl hk'))
 have ld:∀k,dv.ownBlock=some k→k<wr.heap.size:=fun k hk'=>h.ltv k (.inr (.inr hk'))
 rw [←hW]
 refine ⟨b2,mb2,A2,H2,T2,⟨cs 0 _ (by decide) e0,cs 1 _ (by decide) e1,cs 2 _ (by decide) e2,cs 3 _ (by decide) e3,cs 4 _ (by decide) e4,?_,cs 6 _ (by decide) e6,?_,⟨fun h1=>nA _ h1 rfl,fun h1=>nH _ h1 rfl,fun h1=>nT _ h1 rfl⟩,h.k.fr.size,
  (h.maps.fr hf3).frS hf (apB _ lm),ap _ lm,(h.own.frS hf3 (fun _ _=>id)).frS hf (apB _ lo'),ap _ lo',(h.draws.fr hf3 (fun _ _=>id)).fr hf (apB _ ld),ap _ ld,?_,fun k hk'=>Nat.lt_of_lt_of_le (hlt k hk') hf.size,fun k hk'=>Nat.lt_of_lt_of_le (h.ltv k hk') hfr.size⟩,hfr,fun k hk'=> ?_,fun k hk'=>(hA k hk').imp id fun h1=> ?_⟩
 ·rw [hW];exact World.cell?_setCell_same _ _ _ e5
 ·rw [hW,World.frozen?_setCell];exact hz 6
 ·exact hk.apart hf (fun k hk'=>by rw [hk'];exact h.k.fr.size) nA nH nT
 ·rcases hk' with h1|h1
  ·have:=hH k h1;omega
  ·have:=hT k h1;omega
 ·omega
theorem wcopy_any2{w0 wr:World}{bw b mb p:Nat}{ds:List MapD}{RL:List Reg}{D:List Int}{S:List Tab}{m:List Reg}{A H T:Nat→Prop}{mv ov dv:Value}(h:WAt w0 bw b mb ds p RL D S m A H T mv ov dv wr)(hok:MemOk m)(hh:holdsB (mregsOf (S.map (·.d))) m=true):
  Calls prog 72 #[.pointer (some ⟨bw,0,none⟩)] wr fun e w'=>e= .returned (.pointer (some ⟨wr.heap.size,0,none⟩))∧Hid (∃b2 mb2 A2 H2 T2,WAt w0 wr.heap.size b2 mb2 ds p RL D S m A2 H2 T2 mv ov dv w'∧Fr No wr w'∧(∀k,H2 k∨T2 k→wr.heap.size≤k)∧∀k,A2 k→A k∨wr.heap.size≤k):=by
 obtain ⟨am,cm,hm⟩:=h.maps.form
 obtain ⟨ao,no,co,ho⟩:=h.own.form'
 obtain ⟨ad,cd,hd⟩:=h.draws.form
 refine (wcopy_walk bw b mb mv ov dv p wr am ao ad _ cm no co _ cd hm ho hd h.c0 h.c1 h.c2 h.c3 h.c4 h.c5 h.c6 w0 S m A (fun W hW=> ?_) (fun W mb2 T2 hW hm2 hT2=>copied_on h.k h.lt hW hm2 hT2 hok hh)).mono ?_
 ·refine (copy_any (h.k.mem.fr hW (fun _ _=>id)) hok.1 hok.2).mono ?_
  rintro e w' ⟨b',he,hf,hm'⟩
  exact ⟨b',he,hf,hm'⟩
 ·rintro e w' ⟨he,hc⟩
  exact ⟨he,h.copied hc.out⟩
theorem WAt.to{w0 wr w' bw b mb p ds RL D S m A H T mv ov dv}(h:WAt w0 bw b mb ds p RL D S m A H T mv ov dv wr)(hf:Fr No wr w'):WAt w0 bw b mb ds p RL D S m A H T mv ov dv w':=
 ⟨hf.cell h.c0 id,hf.cell h.c1 id,hf.cell h.c2 id,hf.cell h.c3 id,hf.cell h.c4 id,hf.cell h.c5 id,hf.cell h.c6 id,by rw [hf.frozen h.c6 id];exact h.open6,h.nb,h.lo,h.maps.fr hf,h.mapsA,h.own.frS hf (fun _ _=>id),h.ownA,h.draws.fr hf (fun _ _=>id),h.drawsA,h.k.to hf,
  fun k hk=>Nat.lt_of_lt_of_le (h.lt k hk) hf.size,fun k hk=>Nat.lt_of_lt_of_le (h.ltv k hk) hf.size⟩
theorem WAt.turn{w0 wr w' bw b mb p ds RL D S S' m m' A H T mv ov dv}(h:WAt w0 bw b mb ds p RL D S m A H T mv ov dv wr)(hf:Fr (Or2 H T) wr w')(hk:KSt w0 b mb S' m' A H T w'):WAt w0 bw b mb ds p RL D S' m' A H T mv ov dv w':=by
 have hb:¬Or2 H T bw:=fun hx=>hx.elim h.nb.2.1 h.nb.2.2
 have hx:∀v,Apart (fun k=>H k∨T k∨k=bw) v→Apart (Or2 H T) v:=fun v hv k hk hx=>hv k hk (hx.elim .inl (fun h=> .inr (.inl h)))
 exact ⟨hf.cell h.c0 hb,hf.cell h.c1 hb,hf.cell h.c2 hb,hf.cell h.c3 hb,hf.cell h.c4 hb,hf.cell h.c5 hb,hf.cell h.c6 hb,by rw [hf.frozen h.c6 hb];exact h.open6,h.nb,h.lo,h.maps.frS hf (hx _ h.mapsA),h.mapsA,h.own.frS hf (hx _ h.ownA),h.ownA,h.draws.fr hf (hx _ h.drawsA),h.drawsA,hk,
  fun k hk=>Nat.lt_of_lt_of_le (h.lt k hk) hf.size,fun k hk=>Nat.lt_of_lt_of_le (h.ltv k hk) hf.size⟩
end Go.Proofs.YtfmcmfiebehhiaaGreatDoor
namespace Go.Proofs.YtfmcmfiebehhiaaGreatDoor
open Go.Proofs.Tryz
open Go.RowKit
open Go.Maps (Keyed int_keyed)
def argsD:DataW Unit:= .map [(.int .i64 1, .lit (.int .i64 2)),(.int .i64 2, .lit (.int .i64 4)),(.int .i64 3, .lit (.int .i64 2)),(.int .i64 7, .lit (.int .i64 0))]
def argHas(id:Int):Bool:=decide (id=1∨id=2∨id=3∨id=7)
def ArgsAt(w:World):Prop:=∃bm n,w.cell? ⟨7,0,none⟩=some (.map (some bm))∧w.ownsMap prog 3 (plainElem prog 3) bm n argsD
theorem ArgsAt.fr{w w':World}(h:ArgsAt w)(hf:Fr No w w'):ArgsAt w':=by
 obtain ⟨bm,n,hc,es,clock,hb,hF,hn,hD⟩:=h
 refine ⟨bm,n,hf.cell hc id,es,clock,?_,hF,hn,hD⟩
 have hlt:bm<w.heap.size:=(Array.getElem?_eq_some_iff.1 hb).1
 rw [hf.block bm hlt id]
 exact hb
end Go.Proofs.YtfmcmfiebehhiaaGreatDoor
namespace Go.Proofs.YtfmcmfiebehhiaaGreatDoor
open Go.Proofs.Tryz
open Go.RowKit
structure CallW(bw b mb:Nat)(nm:Nat)(key value:Int)(gm om cm:Nat)(i:Nat)(W:World):Prop where
 c0:W.cell? ⟨bw,0,none⟩=some (.bool true)
 c1:W.cell? ⟨bw,1,none⟩=some (.slice (some ⟨gm,om,none⟩) nm cm)
 c4:W.cell? ⟨bw,4,none⟩=some (.pointer (some ⟨mb,0,none⟩))
 c5:W.cell? ⟨bw,5,none⟩=some (.pointer (some ⟨b,0,none⟩))
 key:W.cell? ⟨gm,om+i*4+1,none⟩=some (.int .i64 key)
 value:W.cell? ⟨gm,om+i*4+2,none⟩=some (.int .i64 value)
theorem CallW.fr{bw b mb nm gm om cm i key value W W'}(h:CallW bw b mb nm key value gm om cm i W)(hf:Fr No W W'):CallW bw b mb nm key value gm om cm i W':=
 ⟨hf.cell h.c0 (fun h=>h),hf.cell h.c1 (fun h=>h),hf.cell h.c4 (fun h=>h),hf.cell h.c5 (fun h=>h),hf.cell h.key (fun h=>h),hf.cell h.value (fun h=>h)⟩
def ownL(p:Nat)(mark:Int)(Pl:List UInt8)(ds:List MapD):List Reg:=presL (ownR0 p) (ownR1 mark) ownR2 (ownR3 Pl)++mregs ds
theorem presL_len(r0 r1 r2 r3):3≤(presL r0 r1 r2 r3).length∧(presL r0 r1 r2 r3).length≤4:=by unfold presL;split<;>simp
def HNewQ(w:World)(ds:List MapD)(p:Nat)(mark:Int)(Pl:List UInt8)(D:List Int)(mm:List Reg)(e:Ending)(w':World):Prop:=
 ∃bw b mb A H T mv ov dv,e= .returned (.tuple #[.pointer (some ⟨bw,0,none⟩), .int .i64 0])∧Hid (WAt w bw b mb ds p (ownL p mark Pl ds) D (ds.map Tab.new) mm A H T mv ov dv w')∧Fr No w w'
theorem hnew_walk(Pl:List UInt8)(P:ByteArray)(p mark mv mo dv am ad ao nm cm nd cd no co)(ds:List MapD)(w:World)(hPl:P=⟨Pl.toArray⟩)(hp:P.size=p)(hds:MapsIn w (.slice am nm cm) ds)(hnm:ds.length=nm)(hml:mayL ds=true)(more:List Reg)(hmore:SrcAt w (.slice ao no co) no (aflat more))(hno:more.length=no)(mm:List Reg)(hperm:mm.Perm (ownL p mark Pl ds++natR::more))(hwf:WF mm)(hfew:nm+no≤7)(htyp:∀r∈ownL p mark Pl ds++natR::more,r.typed)(hhold:holdsB (mregsOf ds) mm=true)(hok:MemOk mm)(D:List Int)(hD:U64sIn w (.slice ad nd cd) D)(hnd:D.length=nd)(h256:p≤200)(hd:nd≤100)(hmv:mv= .slice am nm cm)(hdv:dv= .slice ad nd cd)(hmo:mo= .slice ao no co)(hmark:0≤mark∧mark<18446744073709551616):
  Calls prog 10 #[.agg #[mv, .int .i64 p], .agg #[.string P, .int .u64 mark, .slice none 0 0,dv],mo] w (HNewQ w ds p mark Pl D mm):=by
 have HPL:=Lib.hid hPl
 clear hPl
 have HDS:Hid (∀W,Fr No w W→MapsIn W (.slice am nm cm) ds):=fun W hW=>hds.fr hW
 have HML:=Lib.hid hml
 have h4:nm≤4:=by rw [←hnm];exact ((mayL_iff ds).1 hml).1
 have HNM:=Lib.hid hnm
 have HMORE:Hid (∀W,Fr No w W→SrcAt W (.slice ao no co) no (aflat more)):=fun W hW=>hmore.fr hW (fun _ _=>id)
 have HNO:=Lib.hid hno
 have HR:Hid (∀W,Fr No w W→Calls prog 25 #[.slice am nm cm] W fun e w'=>∃u,e= .returned u∧Hid (SrcAt w' u nm (aflat (mregs ds))∧Fr No W w')):=fun W hW=>by
  have:=mregions_src (.slice am nm cm) ds W (HDS.out W hW) HML.out
  rwa [hnm] at this
 have HRL:Hid ((aflat (mregs ds)).length=nm*3):=by rw [←hnm,←mregs_length ds];exact aflat_length _
 have HRO:Hid (∀u∈aflat (mregs ds),u.oneCell'=true):=aflat_one _
 have HPERM:=Lib.hid hperm
 have HWF:=Lib.hid hwf
 have HFEW:=Lib.hid hfew
 have HTYP:=Lib.hid htyp
 have HHOLD:=Lib.hid hhold
 have HOK:=Lib.hid hok
 have HDR:=Lib.hid hD
 have HND:=Lib.hid hnd
 have h100:nd≤100:=hd
 clear hD hnd
 clear hds hml hmore hnm hno hperm hwf hfew htyp hhold hok
 subst hmv
 subst hdv
 subst hmo
 have HB:Hid (∀(x:Int) W,0≤x→x<18446744073709551616→Calls prog 23 #[.int .u64 x, .int .i64 8] W fun e w'=>e= .returned (.string (b8 x))∧Fr No W w'):=fun x W h0 h1=>by
  obtain ⟨n,rfl⟩:=Int.eq_ofNat_of_zero_le h0
  exact (bytes_any n 8 W (by omega) (by omega)).mono fun e w' ⟨he,hf⟩=>⟨he,Fr.of_below hf⟩
 have HB0:Hid (∀W,Calls prog 23 #[.int .u64 196608, .int .i64 8] W fun e w'=>e= .returned (.string (b8 196608))∧Fr No W w'):=fun W=>HB.out _ W (by decide) (by decide)
 have HB1:Hid (∀W,Calls prog 23 #[.int .u64 (196608+(p:Int)), .int .i64 8] W fun e w'=>e= .returned (.string (b8 (196608+(p:Int))))∧Fr No W w'):=fun W=>HB.out _ W (by omega) (by omega)
 have HB2:Hid (∀W,Calls prog 23 #[.int .u64 mark, .int .i64 8] W fun e w'=>e= .returned (.string (b8 mark))∧Fr No W w'):=fun W=>HB.out _ W hmark.1 hmark.2
 have HZ2:Hid (∀W,Calls prog 24 #[.int .i64 128] W fun e w'=>e= .returned (.string (zs 128))∧Fr No W w'):=fun W=>hzeros_any 128 W (by decide)
 have HZ:Hid (∀W,Calls prog 24 #[.int .i64 512] W fun e w'=>e= .returned (.string (zs 512))∧Fr No W w'):=fun W=>hzeros_any 512 W (by decide)
 have q1:((p:Int) !=(p:Int))=false:=by simp
 have q2:decide ((200:Int)<(p:Int))=false:=by simp;omega
 have q3:decide ((100:Int)<(nd:Int))=false:=by simp;omega
 have q4:decide ((nm:Int)<0)=false:=by simp
 have f1:IntKind.u64.wrap (p:Int)=p:=u64_nat p (by omega)
 have f2:IntKind.u64.wrap (196608+(p:Int))=196608+(p:Int):=IntWalk.u64_in _ (by omega)
 have s0:(b8 196608).size=8:=b8_size _
 have s1:(b8 (196608+(p:Int))).size=8:=b8_size _
 have s2:(b8 mark).size=8:=b8_size _
 clear hmark h256 hd HB
 go_enter func10,ntmps10
 go_upto_region 3 with fail
 obtain ⟨W0,hW0⟩:∃W0,W0=((w.alloc (.cells #[.slice am nm cm, .int .i64 p] 29)).alloc (.cells #[.string P, .int .u64 mark, .slice none 0 0, .slice ad nd cd] 56)):=⟨_,rfl⟩
 have HC:Hid (∀W,Fr No W0 W→W.cell? ⟨w.heap.size,0,none⟩=some (.slice am nm cm)∧W.cell? ⟨w.heap.size,1,none⟩=some (.int .i64 p)∧W.cell? ⟨w.heap.size+1,0,none⟩=some (.string P)∧W.cell? ⟨w.heap.size+1,1,none⟩=some (.int .u64 mark)
   ∧W.cell? ⟨w.heap.size+1,2,none⟩=some (.slice none 0 0)∧W.cell? ⟨w.heap.size+1,3,none⟩=some (.slice ad nd cd)):=fun W hW=>by
  subst hW0
  refine ⟨hW.cell ?_ id,hW.cell ?_ id,hW.cell ?_ id,hW.cell ?_ id,hW.cell ?_ id,hW.cell ?_ id⟩<;>go_simp
 have HFZ:Hid (∀W,Fr No W0 W→W.frozen? ⟨w.heap.size,0,none⟩=false):=fun W hW=>by
  rw [hW.frozen (HC.out _ (Fr.refl _ _)).1 id]
  subst hW0
  go_simp
 have HS:Hid (W0.heap.size=w.heap.size+2):=Lib.hid (by subst hW0;simp only [World.alloc,Array.size_push])
 have HF0:Hid (Fr No w W0):=by rw [hW0];exact ((Fr.refl _ _).alloc _).alloc _
 rw [←hW0]
 clear hW0
 go_cut [8] (fun s8 wx=>Hid (wx.ownsRow W0.heap.size 58 3 s8 (presL (ownR0 p) (ownR1 mark) ownR2 (ownR3 Pl)).length (aflat (presL (ownR0 p) (ownR1 mark) ownR2 (ownR3 Pl)))∧Fr No W0 wx))
 case first=>
  have HP:Hid (∀W,Fr No W0 W→Calls prog 22 #[.slice (some ⟨W.heap.size,0,none⟩) 4 4] (W.alloc (.cells #[.int .u64 65536, .string (b8 196608++b8 (196608+(p:Int))), .bool false, .int .u64 65552, .string (b8 mark), .bool true, .int .u64 131072, .string (zs 512), .bool true, .int .u64 196608, .string P, .bool true] 58))
   fun e w'=>∃v',e= .returned v'∧Hid (w'.ownsRow W0.heap.size 58 3 v' (presL (ownR0 p) (ownR1 mark) ownR2 (ownR3 Pl)).length (aflat (presL (ownR0 p) (ownR1 mark) ownR2 (ownR3 Pl))))∧Fr No W w'):=fun W hW=>by
   rw [HPL.out]
   exact (present_row Pl p mark W0.heap.size W hW.size).mono fun e w' ⟨v',he,h⟩=>⟨v',he,h.out.1,h.out.2⟩
  have HK:Hid (∀W W',Fr No W W'→(W.cell? ⟨w.heap.size,1,none⟩=some (.int .i64 p)∧W.cell? ⟨w.heap.size+1,0,none⟩=some (.string P)∧W.cell? ⟨w.heap.size+1,1,none⟩=some (.int .u64 mark)∧Hid (Fr No W0 W))→
    (W'.cell? ⟨w.heap.size,1,none⟩=some (.int .i64 p)∧W'.cell? ⟨w.heap.size+1,0,none⟩=some (.string P)∧W'.cell? ⟨w.heap.size+1,1,none⟩=some (.int .u64 mark)∧Hid (Fr No W0 W'))):=fun W W' hf h=>⟨hf.cell h.1 id,hf.cell h.2.1 id,hf.cell h.2.2.1 id,h.2.2.2.out.trans hf⟩
  have HK0:Hid (∀W,Fr No W0 W→(W.cell? ⟨w.heap.size,1,none⟩=some (.int .i64 p)∧W.cell? ⟨w.heap.size+1,0,none⟩=some (.string P)∧W.cell? ⟨w.heap.size+1,1,none⟩=some (.int .u64 mark)∧Hid (Fr No W0 W))):=fun W h=>by
   obtain ⟨_,c1,c2,c3,_⟩:=HC.out _ h
   exact ⟨c1,c2,c3,h⟩
  have H0:(W0.drew.cell? ⟨w.heap.size,1,none⟩=some (.int .i64 p)∧W0.drew.cell? ⟨w.heap.size+1,0,none⟩=some (.string P)∧W0.drew.cell? ⟨w.heap.size+1,1,none⟩=some (.int .u64 mark)∧Hid (Fr No W0 W0.drew)):=by
   have hd:=(Fr.refl No W0).drew
   obtain ⟨_,c1,c2,c3,_⟩:=HC.out _ hd
   exact ⟨c1,c2,c3,hd⟩
  go_region_held3 (fun W=>W.cell? ⟨w.heap.size,1,none⟩=some (.int .i64 p)∧W.cell? ⟨w.heap.size+1,0,none⟩=some (.string P)∧W.cell? ⟨w.heap.size+1,1,none⟩=some (.int .u64 mark)∧Hid (Fr No W0 W))
   (first|assumption|exact HK.out _ _ (by assumption) (by assumption)|exact HK0.out _ (by (iterate 5 (refine Fr.trans ?_ (by assumption)));exact (Fr.refl _ _).drew)|exact HK.out _ _ ((Fr.refl _ _).alloc _) (by assumption))
   (first
    |(go_at_call 23;(with_reducible refine (HB0.out _).mono ?_);rintro e w3 ⟨rfl,hf3⟩)
    |(go_at_call 23;(with_reducible refine (HB1.out _).mono ?_);rintro e w4 ⟨rfl,hf4⟩)
    |(go_at_call 23;(with_reducible refine (HB2.out _).mono ?_);rintro e w5 ⟨rfl,hf5⟩)
    |(go_at_call 24;(with_reducible refine (HZ.out _).mono ?_);rintro e w6 ⟨rfl,hf6⟩)
    |(go_at_call 22;(with_reducible refine (HP.out _ (by (iterate 4 (refine Fr.trans ?_ (by assumption)));exact (Fr.refl _ _).drew)).mono ?_);rintro e w7 ⟨v7,rfl,ho7,hf7⟩))
  all_goals go_wp2_with fail
  all_goals go_meet
  all_goals exact ⟨ho7.out,by (iterate 5 (refine Fr.trans ?_ (by assumption)));exact (Fr.refl _ _).drew⟩
 case rest=>
  obtain ⟨i0,hi,hz0,hz1,hz2⟩:=info_parts Tryz.info_areg
  obtain ⟨N1,hN1⟩:∃N1,(presL (ownR0 p) (ownR1 mark) ownR2 (ownR3 Pl)).length=N1:=⟨_,rfl⟩
  have hN14:3≤N1∧N1≤4:=by rw [←hN1];exact presL_len _ _ _ _
  obtain ⟨hN13,hN14⟩:=hN14
  obtain ⟨xs1,hxs1⟩:∃xs1,aflat (presL (ownR0 p) (ownR1 mark) ownR2 (ownR3 Pl))=xs1:=⟨_,rfl⟩
  have HN1:=Lib.hid hN1
  have HXS1:=Lib.hid hxs1
  have HOW:=Lib.hid hcut.out.1
  have HFW:=Lib.hid hcut.out.2
  rw [hN1,hxs1] at HOW
  have HXR:Hid (xs1++aflat (mregs ds)=aflat (ownL p mark Pl ds)):=by unfold ownL;rw [aflat_app,hxs1];exact Lib.hid rfl
  have HLN:Hid ((ownL p mark Pl ds).length=N1+nm):=by unfold ownL;rw [List.length_append,mregs_length,hN1,HNM.out];exact Lib.hid rfl
  have HCC:Hid (∀W oa2 oc2,Fr No W0 W→W.ownsRow W0.heap.size 58 3 (.slice oa2 (N1+nm) oc2) (N1+nm) (aflat (ownL p mark Pl ds))→Calls prog 27 #[.slice (some ⟨W.heap.size+1+1,0,none⟩) 3 3] (((W.alloc (.cells #[.int .u64 262144, .string (zs 128), .bool true] 58)).alloc (.cells #[.int .u64 262144, .string (zs 128), .bool true] 58)).alloc (.cells #[.slice oa2 (N1+nm) oc2, .slice (some ⟨W.heap.size+1,0,none⟩) 1 1, .slice ao no co] 30))
   fun e w'=>∃v,e= .returned v∧Hid (RegsAt w' v (ownL p mark Pl ds++natR::more)∧Fr No W w')):=fun W oa2 oc2 hW own=>concat_row W0.heap.size (N1+nm) oc2 no co oa2 ao _ more W own (by omega) (by have:=HFEW.out;omega) (HMORE.out W (HF0.out.trans hW)) HNO.out HLN.out HTYP.out
  have HMN:Hid (∀W v,RegsAt W v (ownL p mark Pl ds++natR::more)→Calls prog 26 #[v] W fun e w'=>∃b,e= .returned (.tuple #[.pointer (some ⟨b,0,none⟩), .int .i64 0])∧Hid (Fr No W w'∧MemAt w' b mm (Made W w'))):=fun W v h=>
   (new_is h (by rw [List.length_append,List.length_cons,HLN.out,HNO.out];have:=HFEW.out;omega) HPERM.out HWF.out).mono fun e w' ⟨b,he,h1,h2⟩=>⟨b,he,h1,h2⟩
  have HXN:Hid (∀W mb T,Fr No w W→MemAt W mb mm T→(∀k,T k→From w k∧k<W.heap.size)→Calls prog 28 #[.slice am nm cm, .pointer (some ⟨mb,0,none⟩)] W fun e w'=>∃b A H,e= .returned (.tuple #[.pointer (some ⟨b,0,none⟩), .int .i64 0])∧Hid (KSt w b mb (ds.map Tab.new) mm A H T w'∧(∀k,A k∨H k∨T k→k<w'.heap.size)∧(∀k,H k→W.heap.size≤k)∧(∀k,A k→W.heap.size≤k)∧Fr No W w')):=fun W mb T hW hm hT=>
   maps_on w ds mm HML.out HHOLD.out HOK.out _ mb T W (HDS.out W hW) hm hT hW
  have HCM:Hid (∀W,Fr No w W→Calls prog 30 #[.slice am nm cm] W fun e w'=>∃a c,e= .returned (.slice a nm c)∧Hid (MapsIn w' (.slice a nm c) ds∧Fr No W w'∧∀k,(Value.slice a nm c).ownBlock=some k→W.heap.size≤k∧k<w'.heap.size)):=fun W hW=>by
   have:=clone_mapsIn (.slice am nm cm) ds W (HDS.out W hW) (by rw [HNM.out];omega)
   rwa [HNM.out] at this
  obtain ⟨oa,oc,rfl⟩:=own_form HOW.out
  obtain ⟨l0,l1,l2,l3,l4,l5⟩:=HC.out wc HFW.out
  clear HB0 HB1 HB2 hcut hN1 hxs1
  go_wp2_with (first
   |(go_at_call 25;(with_reducible refine (HR.out _ (HF0.out.trans HFW.out)).mono ?_);rintro e w1 ⟨u1,rfl,h1⟩;have HOW1:=Lib.hid (ownsRow_fr HOW.out h1.out.2 (fun _ _=>id));have HS1:=Lib.hid h1.out.1;have HF1:=Lib.hid (HFW.out.trans h1.out.2);clear h1 l0 l1 l2 l3 l4 l5)
   |(at_builtin;refine wpList_append_src rfl (.tmp 62) (.tmp 65) 30 rfl W0.heap.size 58 i0 _ 3 32 underlying30 hi hz0 hz1 hz2 rfl (by decide) (.slice oa N1 oc) N1 xs1 rfl HOW1.out u1 nm _ rfl HS1.out HRL.out HRO.out (by unfold maxLen;omega) (by omega) HF1.out.size ?_;intro v2 w2 own2 fr2;obtain ⟨oa2,oc2,rfl⟩:=own_form own2;have HOW2:=Lib.hid own2;have HF2:Hid (Fr No W0 w2):=((HF1.out.any.trans (fr2.mono fun q _ hq=>OwnOf.ge HOW1.out hq)):Fr (From W0) W0 w2).ours;clear own2 fr2)
   |(go_at_call 24;(with_reducible refine (HZ2.out _).mono ?_);rintro e w3 ⟨rfl,hf3⟩;have HF3:=Lib.hid (HF2.out.trans hf3);have HOW3:=Lib.hid (ownsRow_fr HOW2.out hf3 (fun _ _=>id));clear hf3)
   |(go_at_call 27;(with_reducible refine (HCC.out _ _ _ HF3.out (by rw [←HXR.out];exact HOW3.out)).mono ?_);rintro e w4 ⟨v4,rfl,h4⟩;have HG4:=Lib.hid h4.out.1;have HF4:=Lib.hid (HF3.out.trans h4.out.2);have HOW4:=Lib.hid (ownsRow_fr HOW3.out h4.out.2 (fun _ _=>id));clear h4)
   |(go_at_call 26;(with_reducible refine (HMN.out _ _ HG4.out).mono ?_);rintro e w5 ⟨mb,rfl,h5⟩;have HF5:=Lib.hid (HF4.out.trans h5.out.1);have HM5:=Lib.hid h5.out.2;have Z45:=Lib.hid h5.out.1.size;have HOW5:=Lib.hid (ownsRow_fr HOW4.out h5.out.1 (fun _ _=>id));clear h5;have HT5:Hid (∀k,Made w4 w5 k→From w k∧k<w5.heap.size):=fun k hk=>⟨Nat.le_trans (HF0.out.trans HF4.out).size hk.1,hk.2⟩;obtain ⟨l0,l1,l2,l3,l4,l5⟩:=HC.out _ HF5.out)
   |(go_at_call 28;(with_reducible refine (HXN.out _ _ _ (HF0.out.trans HF5.out) HM5.out HT5.out).mono ?_);rintro e w6 ⟨b,A,H,rfl,h6⟩;have HF6:=Lib.hid (HF5.out.trans h6.out.2.2.2.2);have HK6:=Lib.hid h6.out;have Z56:=Lib.hid h6.out.2.2.2.2.size;have HOW6:=Lib.hid (ownsRow_fr HOW5.out h6.out.2.2.2.2 (fun _ _=>id));clear h6 l0 l1 l2 l3 l4 l5;obtain ⟨l0,l1,l2,l3,l4,l5⟩:=HC.out _ HF6.out))
  refine wp_loop_rounds 1 ?_
  rw [rounds_succ]
  go_upto_region 23 with (first
   |(go_at_call 30;(with_reducible refine (HCM.out _ (HF0.out.trans HF6.out)).mono ?_);rintro e w7 ⟨a7,c7,rfl,h7⟩;have HF7:=Lib.hid (HF6.out.trans h7.out.2.1);have HC7:=Lib.hid h7.out;clear h7 l0 l1 l2 l3 l4 l5;obtain ⟨l0,l1,l2,l3,l4,l5⟩:=HC.out _ HF7.out;have lz:=HFZ.out _ HF7.out))
  obtain ⟨W8,hW8⟩:∃W8,W8=w7.setCell ⟨w.heap.size,0,none⟩ (.slice a7 nm c7):=⟨_,rfl⟩
  have HF8:Hid (Fr (fun k=>k=w.heap.size) w7 W8):=by rw [hW8];exact (Fr.refl (fun k=>k=w.heap.size) w7).setCell (p:=⟨w.heap.size,0,none⟩) (.inr rfl) _
  have HC8:Hid (∀W,Fr No W8 W→(W.cell? ⟨w.heap.size,0,none⟩=some (.slice a7 nm c7)∧W.cell? ⟨w.heap.size,1,none⟩=some (.int .i64 p)∧W.cell? ⟨w.heap.size+1,3,none⟩=some (.slice ad nd cd)∧Hid (Fr No W8 W))):=fun W hW=>by
   refine ⟨hW.cell ?_ id,hW.cell ?_ id,hW.cell ?_ id,hW⟩<;>(subst hW8;go_simp)
  rw [←hW8]
  clear hW8 l0 l1 l2 l3 l4 l5 lz
  have HW8:Hid (Fr No w W8):=(((HF0.out.trans HF7.out).any.trans (HF8.out.mono fun k _ hk=>by show w.heap.size≤k;omega)):Fr (From w) w W8).ours
  have HCD:Hid (∀W,Fr No W8 W→Calls prog 31 #[.slice ad nd cd] W fun e w'=>∃a c,e= .returned (.slice a nd c)∧Hid (U64sIn w' (.slice a nd c) D∧∀k,(Value.slice a nd c).ownBlock=some k→W8.heap.size≤k∧k<w'.heap.size)∧Fr No W8 w'):=fun W hW=>by
   have h:=clone_draws (.slice ad nd cd) D W (HDR.out.fr (HW8.out.trans hW) (fun _ _=>id)) (by rw [HND.out];omega)
   rw [HND.out] at h
   refine h.mono ?_
   rintro e w' ⟨a,c,he,h⟩
   exact ⟨a,c,he,⟨h.out.1,fun k hk=>⟨Nat.le_trans hW.size (h.out.2.2 k hk).1,(h.out.2.2 k hk).2⟩⟩,hW.trans h.out.2.1⟩
  have H0:=HC8.out W8.drew ((Fr.refl _ _).drew)
  go_region_held3 (fun W=>W.cell? ⟨w.heap.size,0,none⟩=some (.slice a7 nm c7)∧W.cell? ⟨w.heap.size,1,none⟩=some (.int .i64 p)∧W.cell? ⟨w.heap.size+1,3,none⟩=some (.slice ad nd cd)∧Hid (Fr No W8 W))
   (first|assumption|exact HC8.out _ (by assumption)|exact HC8.out _ (Fr.alloc (by assumption) _))
   (first
    |(go_at_call 31;(with_reducible refine (HCD.out _ ((Fr.refl _ _).drew)).mono ?_);rintro e w9 ⟨a9,c9,rfl,h9,hf9⟩))
  all_goals go_wp2_with fail
  all_goals go_ret2
  all_goals exact ⟨_,b,mb,A,H,Made w4 w5,_,_,_,rfl,WAt.start (W0:=W0) 35 rfl (by have h1:=HF4.out.size;have h2:=HS.out;omega) (HF0.out.trans HF4.out).size Z45.out Z56.out HK6.out.1 HK6.out.2.1 HK6.out.2.2.1 HK6.out.2.2.2.1 HC7.out.2.1 HF8.out hf9 HC7.out.1 HC7.out.2.2
   (HXR.out ▸ HOW4.out) (HXR.out ▸ HOW6.out) (by have h2:=HS.out;omega) HLN.out (by omega) (fun r hr=>HTYP.out r (List.mem_append_left _ hr)) h9.out.1 h9.out.2,(HW8.out.trans hf9).alloc _⟩
end Go.Proofs.YtfmcmfiebehhiaaGreatDoor

