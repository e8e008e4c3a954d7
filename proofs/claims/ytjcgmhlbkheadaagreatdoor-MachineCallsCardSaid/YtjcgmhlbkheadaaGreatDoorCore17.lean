/- What Call asks of a world. Call over a world: what is refused. helpers.New, walked. A world made: the memory that it has. -/
import Derived.Test.YtjcgmhlbkheadaaGreatDoorCore16
import Derived.Test.YtjcgmhlbkheadaaGreatDoorCore15
import Derived.Deep.RegionHeld3
import Derived.Deep.DeepCutAuto
import Derived.Deep.RegionWith
set_option linter.all false
set_option linter.unusedVariables false
set_option linter.unusedSimpArgs false
set_option maxRecDepth 100000
set_option maxHeartbeats 4000000
namespace Go.Proofs.YtjcgmhlbkheadaaGreatDoor
open Go.RowKit
theorem mflat_at:∀(l:List MapD) (i:Nat) (x:MapD),l[i]? =some x→(mflat l)[i*4+1]? =some (.int .i64 x.key)∧(mflat l)[i*4+2]? =some (.int .i64 x.value)
 | [],i,x,h=>by simp at h
 |y::l,0,x,h=>by
  simp at h
  subst h
  exact ⟨rfl,rfl⟩
 |y::l,i+1,x,h=>by
  have:=mflat_at l i x (by simpa using h)
  rw [show (i+1)*4+1=i*4+1+4 by omega,show (i+1)*4+2=i*4+2+4 by omega]
  exact this
theorem WAt.callW{w0 wr:World}{bw b mb p:Nat}{ds:List MapD}{RL:List Reg}{D:List Int}{S:List Tab}{m:List Reg}{A H T:Nat→Prop}{mv ov dv:Value}(h:WAt w0 bw b mb ds p RL D S m A H T mv ov dv wr){i:Nat}{x:MapD}(hi:ds[i]? =some x):
  ∃gm om cm,CallW bw b mb ds.length x.key x.value gm om cm i wr:=by
 rcases h.maps with ⟨rfl,_⟩|⟨g,off,cap,hv,hc⟩
 ·simp at hi
 ·obtain ⟨k1,k2⟩:=mflat_at ds i x hi
  have e1:=hc _ _ k1
  have e2:=hc _ _ k2
  rw [←Nat.add_assoc] at e1 e2
  exact ⟨g,off,cap,h.c0,by rw [h.c1,hv],h.c4,h.c5,e1,e2⟩
theorem wcall_lookup{w0 wr:World}{bw b mb p:Nat}{ds:List MapD}{RL:List Reg}{D:List Int}{S:List Tab}{m:List Reg}{A H T:Nat→Prop}{mv ov dv:Value}(h:WAt w0 bw b mb ds p RL D S m A H T mv ov dv wr)(ha:ArgsAt w0)(hS:S.length=ds.length)(h4:ds.length≤4){i:Nat}{x:MapD}(hi:ds[i]? =some x)(a1 a2 a3 a4:Int)
  (l1:0≤a1) (l2:a1≤18446744073709551615) (hx:x.key≤9223372036854775807) (key:List UInt8) (hk:mtext m a1 x.key=(key,0)):
  Calls Tryz.prog 67 #[.pointer (some ⟨bw,0,none⟩), .int .i64 1,five (9437184+(i:Int)) a1 a2 a3 a4] wr fun e w'=>e= .returned (.tuple #[.int .u64 (mlookup S i key), .int .i64 0])∧Hid (WAt w0 bw b mb ds p RL D S m A H T mv ov dv w'∧Fr No wr w'):=by
 obtain ⟨gm,om,cm,hc⟩:=h.callW hi
 have hil:i<ds.length:=(List.getElem?_eq_some_iff.1 hi).1
 refine (call_lookup bw b mb ds.length gm om cm i x.key x.value (9437184+(i:Int)) a1 a2 a3 a4 (mlookup S i key) ⟨key.toArray⟩ wr hc (ha.fr h.k.fr) (fun W hW=> ?_) (by omega) (by rw [show (9437184+(i:Int))-9437184=(i:Int) by omega];exact u64_nat i (by omega)) hil (fun W hW=> ?_) (fun W hW=> ?_)).mono ?_
 ·have:=(h.k.to hW).len
  rwa [hS] at this
 ·exact ((h.k.to hW).text a1 x.key (key,0) l1 l2 hx hk).mono fun e w' ⟨he,_,hf⟩=>⟨he,hf⟩
 ·exact ((h.k.to hW).lookup i key _ rfl).mono fun e w' ⟨he,_,hf⟩=>⟨he,hf⟩
 ·rintro e w' ⟨he,hf⟩
  exact ⟨he,h.to hf,hf⟩
theorem wcall_delete{w0 wr:World}{bw b mb p:Nat}{ds:List MapD}{RL:List Reg}{D:List Int}{S:List Tab}{m:List Reg}{A H T:Nat→Prop}{mv ov dv:Value}(h:WAt w0 bw b mb ds p RL D S m A H T mv ov dv wr)(ha:ArgsAt w0)(hS:S.length=ds.length)(h4:ds.length≤4){i:Nat}{x:MapD}(hi:ds[i]? =some x)(a1 a2 a3 a4:Int)
  (l1:0≤a1) (l2:a1≤18446744073709551615) (hx:x.key≤9223372036854775807) (key:List UInt8) (hk:mtext m a1 x.key=(key,0)) (ru:Int) (hr:IntKind.u64.wrap (mdelete S i key).2=ru):
  Calls Tryz.prog 67 #[.pointer (some ⟨bw,0,none⟩), .int .i64 3,five (9437184+(i:Int)) a1 a2 a3 a4] wr fun e w'=>e= .returned (.tuple #[.int .u64 ru, .int .i64 0])∧Hid (WAt w0 bw b mb ds p RL D (mdelete S i key).1 m A H T mv ov dv w'∧Fr H wr w'):=by
 obtain ⟨gm,om,cm,hc⟩:=h.callW hi
 have hil:i<ds.length:=(List.getElem?_eq_some_iff.1 hi).1
 refine (call_delete bw b mb ds.length gm om cm i x.key x.value (9437184+(i:Int)) a1 a2 a3 a4 (mdelete S i key).2 ru ⟨key.toArray⟩ (fun W w'=>KSt w0 b mb (mdelete S i key).1 m A H T w'∧Fr H W w') wr hc (ha.fr h.k.fr) (fun W hW=> ?_) (by omega) (by rw [show (9437184+(i:Int))-9437184=(i:Int) by omega];exact u64_nat i (by omega)) hil (fun W hW=> ?_) hr (fun W hW=> ?_)).mono ?_
 ·have:=(h.k.to hW).len
  rwa [hS] at this
 ·exact ((h.k.to hW).text a1 x.key (key,0) l1 l2 hx hk).mono fun e w' ⟨he,_,hf⟩=>⟨he,hf⟩
 ·exact ((h.k.to hW).deletes i key _ rfl).mono fun e w' ⟨he,hk,hf⟩=>⟨he,hk.out,hf⟩
 ·rintro e w' ⟨he,W,hW,h1,h2⟩
  exact ⟨he,(h.to hW).turn (h2.mono fun _ _ hq=> .inl hq) h1,hW.any.trans h2⟩
theorem wcall_update{w0 wr:World}{bw b mb p:Nat}{ds:List MapD}{RL:List Reg}{D:List Int}{S:List Tab}{m:List Reg}{A H T:Nat→Prop}{mv ov dv:Value}(h:WAt w0 bw b mb ds p RL D S m A H T mv ov dv wr)(ha:ArgsAt w0)(hS:S.length=ds.length)(h4:ds.length≤4){i:Nat}{x:MapD}(hi:ds[i]? =some x)(a1 a2 a4:Int)
  (l1:0≤a1) (l2:a1≤18446744073709551615) (l3:0≤a2) (l4:a2≤18446744073709551615) (hx:x.key≤9223372036854775807) (hy:x.value≤9223372036854775807) (key val:List UInt8) (hk:mtext m a1 x.key=(key,0)) (hv:mtext m a2 x.value=(val,0)) (ru:Int) (hr:IntKind.u64.wrap (mupdate S m i key val).2=ru):
  Calls Tryz.prog 67 #[.pointer (some ⟨bw,0,none⟩), .int .i64 2,five (9437184+(i:Int)) a1 a2 0 a4] wr fun e w'=>e= .returned (.tuple #[.int .u64 ru, .int .i64 0])∧Hid (WAt w0 bw b mb ds p RL D (mupdate S m i key val).1.1 (mupdate S m i key val).1.2 A H T mv ov dv w'∧Fr (Or2 H T) wr w'):=by
 obtain ⟨gm,om,cm,hc⟩:=h.callW hi
 have hil:i<ds.length:=(List.getElem?_eq_some_iff.1 hi).1
 refine (call_update bw b mb ds.length gm om cm i x.key x.value (9437184+(i:Int)) a1 a2 0 a4 (mupdate S m i key val).2 ru ⟨key.toArray⟩ ⟨val.toArray⟩ (fun W w'=>KSt w0 b mb (mupdate S m i key val).1.1 (mupdate S m i key val).1.2 A H T w'∧Fr (Or2 H T) W w') wr hc (ha.fr h.k.fr) (fun W hW=> ?_) (by omega) (by rw [show (9437184+(i:Int))-9437184=(i:Int) by omega];exact u64_nat i (by omega)) hil (fun W hW=> ?_) (fun W hW=> ?_) (by decide) hr (fun W hW=> ?_)).mono ?_
 ·have:=(h.k.to hW).len
  rwa [hS] at this
 ·exact ((h.k.to hW).text a1 x.key (key,0) l1 l2 hx hk).mono fun e w' ⟨he,_,hf⟩=>⟨he,hf⟩
 ·exact ((h.k.to hW).text a2 x.value (val,0) l3 l4 hy hv).mono fun e w' ⟨he,_,hf⟩=>⟨he,hf⟩
 ·exact ((h.k.to hW).updates i key val _ rfl).mono fun e w' ⟨he,hk,hf⟩=>⟨he,hk.out,hf⟩
 ·rintro e w' ⟨he,W,hW,h1,h2⟩
  exact ⟨he,(h.to hW).turn h2 h1,hW.any.trans h2⟩
theorem wcall_nomap{w0 wr:World}{bw b mb p:Nat}{ds:List MapD}{RL:List Reg}{D:List Int}{S:List Tab}{m:List Reg}{A H T:Nat→Prop}{mv ov dv:Value}(h:WAt w0 bw b mb ds p RL D S m A H T mv ov dv wr)(ha:ArgsAt w0)(h4:S.length≤4)(id a0 a1 a2 a3 a4 x:Int)(hw:(Lit.int .i64 id).wf=true)(hid:id=1∨id=2∨id=3)
  (hx:IntKind.u64.wrap (a0-9437184)=x) (hge:(S.length:Int)≤x):
  Calls Tryz.prog 67 #[.pointer (some ⟨bw,0,none⟩), .int .i64 id,five a0 a1 a2 a3 a4] wr fun e w'=>e= .returned (.tuple #[.int .u64 0, .int .i64 2])∧Hid (WAt w0 bw b mb ds p RL D S m A H T mv ov dv w'∧Fr No wr w'):=
 (call_nomap bw b S.length id a0 a1 a2 a3 a4 x wr h.c0 h.c5 (ha.fr h.k.fr) hw hid (fun W hW=>(h.k.to hW).len) (by omega) hx hge).mono fun e w' ⟨he,hf⟩=>⟨he,h.to hf,hf⟩
theorem wcall_nokey{w0 wr:World}{bw b mb p:Nat}{ds:List MapD}{RL:List Reg}{D:List Int}{S:List Tab}{m:List Reg}{A H T:Nat→Prop}{mv ov dv:Value}(h:WAt w0 bw b mb ds p RL D S m A H T mv ov dv wr)(ha:ArgsAt w0)(hS:S.length=ds.length)(h4:ds.length≤4){i:Nat}{x:MapD}(hi:ds[i]? =some x)(id a1 a2 a3 a4:Int)(hw:(Lit.int .i64 id).wf=true)(hid:id=1∨id=2∨id=3)
  (l1:0≤a1) (l2:a1≤18446744073709551615) (hx:x.key≤9223372036854775807) (key:List UInt8) (err:Int) (hk:mtext m a1 x.key=(key,err)) (he0:(err==0)=false):
  Calls Tryz.prog 67 #[.pointer (some ⟨bw,0,none⟩), .int .i64 id,five (9437184+(i:Int)) a1 a2 a3 a4] wr fun e w'=>e= .returned (.tuple #[.int .u64 0, .int .i64 err])∧Hid (WAt w0 bw b mb ds p RL D S m A H T mv ov dv w'∧Fr No wr w'):=by
 obtain ⟨gm,om,cm,hc⟩:=h.callW hi
 have hil:i<ds.length:=(List.getElem?_eq_some_iff.1 hi).1
 refine (call_nokey bw b mb ds.length gm om cm i x.key x.value (9437184+(i:Int)) a1 a2 a3 a4 id err ⟨key.toArray⟩ wr hc (ha.fr h.k.fr) hw hid (fun W hW=> ?_) (by omega) (by rw [show (9437184+(i:Int))-9437184=(i:Int) by omega];exact u64_nat i (by omega)) hil (fun W hW=> ?_) he0).mono ?_
 ·have:=(h.k.to hW).len
  rwa [hS] at this
 ·exact ((h.k.to hW).text a1 x.key (key,err) l1 l2 hx hk).mono fun e w' ⟨he,_,hf⟩=>⟨he,hf⟩
 ·rintro e w' ⟨he,hf⟩
  exact ⟨he,h.to hf,hf⟩
theorem wcall_flag{w0 wr:World}{bw b mb p:Nat}{ds:List MapD}{RL:List Reg}{D:List Int}{S:List Tab}{m:List Reg}{A H T:Nat→Prop}{mv ov dv:Value}(h:WAt w0 bw b mb ds p RL D S m A H T mv ov dv wr)(ha:ArgsAt w0)(hS:S.length=ds.length)(h4:ds.length≤4){i:Nat}{x:MapD}(hi:ds[i]? =some x)(a1 a2 a3 a4:Int)
  (l1:0≤a1) (l2:a1≤18446744073709551615) (l3:0≤a2) (l4:a2≤18446744073709551615) (hx:x.key≤9223372036854775807) (hy:x.value≤9223372036854775807) (key val:List UInt8) (hk:mtext m a1 x.key=(key,0)) (hv:mtext m a2 x.value=(val,0)) (hfl:(a3==0)=false):
  Calls Tryz.prog 67 #[.pointer (some ⟨bw,0,none⟩), .int .i64 2,five (9437184+(i:Int)) a1 a2 a3 a4] wr fun e w'=>e= .returned (.tuple #[.int .u64 18446744073709551594, .int .i64 0])∧Hid (WAt w0 bw b mb ds p RL D S m A H T mv ov dv w'∧Fr No wr w'):=by
 obtain ⟨gm,om,cm,hc⟩:=h.callW hi
 have hil:i<ds.length:=(List.getElem?_eq_some_iff.1 hi).1
 refine (call_flag bw b mb ds.length gm om cm i x.key x.value (9437184+(i:Int)) a1 a2 a3 a4 ⟨key.toArray⟩ ⟨val.toArray⟩ wr hc (ha.fr h.k.fr) (fun W hW=> ?_) (by omega) (by rw [show (9437184+(i:Int))-9437184=(i:Int) by omega];exact u64_nat i (by omega)) hil (fun W hW=> ?_) (fun W hW=> ?_) hfl).mono ?_
 ·have:=(h.k.to hW).len
  rwa [hS] at this
 ·exact ((h.k.to hW).text a1 x.key (key,0) l1 l2 hx hk).mono fun e w' ⟨he,_,hf⟩=>⟨he,hf⟩
 ·exact ((h.k.to hW).text a2 x.value (val,0) l3 l4 hy hv).mono fun e w' ⟨he,_,hf⟩=>⟨he,hf⟩
 ·rintro e w' ⟨he,hf⟩
  exact ⟨he,h.to hf,hf⟩
def ownL(p:Nat)(mark:Int)(Pl:List UInt8)(ds:List MapD):List Reg:=presL (ownR0 p) (ownR1 mark) ownR2 (ownR3 Pl)++mregs ds
theorem presL_len(r0 r1 r2 r3:Reg):3≤(presL r0 r1 r2 r3).length∧(presL r0 r1 r2 r3).length≤4:=by unfold presL;split<;>simp
def HNewQ(w:World)(ds:List MapD)(p:Nat)(mark:Int)(Pl:List UInt8)(D:List Int)(mm:List Reg)(e:Ending)(w':World):Prop:=
 ∃bw b mb A H T mv ov dv,e= .returned (.tuple #[.pointer (some ⟨bw,0,none⟩), .int .i64 0])∧Hid (WAt w bw b mb ds p (ownL p mark Pl ds) D (ds.map Tab.new) mm A H T mv ov dv w')∧Fr No w w'
theorem hnew_walk(Pl:List UInt8)(P:ByteArray)(p:Nat)(mark:Int)(mv mo dv:Value)(am ad ao:Option Addr)(nm cm nd cd no co:Nat)(ds:List MapD)(w:World)(hPl:P=⟨Pl.toArray⟩)(hp:P.size=p)(hds:MapsIn w (.slice am nm cm) ds)(hnm:ds.length=nm)(hml:mayL ds=true)(more:List Reg)(hmore:SrcAt w (.slice ao no co) no (aflat more))(hno:more.length=no)(mm:List Reg)(hperm:mm.Perm (ownL p mark Pl ds++natR::more))(hwf:WF mm)(hfew:nm+no≤7)(htyp:∀r∈ownL p mark Pl ds++natR::more,r.typed)(hhold:holdsB (mregsOf ds) mm=true)(hok:MemOk mm)(D:List Int)(hD:U64sIn w (.slice ad nd cd) D)(hnd:D.length=nd)(h256:p≤200)(hd:nd≤100)
  (hmv:mv= .slice am nm cm) (hdv:dv= .slice ad nd cd) (hmo:mo= .slice ao no co) (hmark:0≤mark∧mark<18446744073709551616):
  Calls Tryz.prog 6 #[.agg #[mv, .int .i64 p], .agg #[.string P, .int .u64 mark, .slice none 0 0,dv],mo] w (HNewQ w ds p mark Pl D mm):=by
 have HPL:=Lib.hid hPl
 clear hPl
 have HDS:Hid (∀W,Fr No w W→MapsIn W (.slice am nm cm) ds):=fun W hW=>hds.fr hW
 have HML:=Lib.hid hml
 have h4:nm≤4:=by rw [←hnm];exact ((mayL_iff ds).1 hml).1
 have HNM:=Lib.hid hnm
 have HMORE:Hid (∀W,Fr No w W→SrcAt W (.slice ao no co) no (aflat more)):=fun W hW=>hmore.fr hW (fun _ _=>id)
 have HNO:=Lib.hid hno
 have HR:Hid (∀W,Fr No w W→Calls Tryz.prog 19 #[.slice am nm cm] W fun e w'=>∃u,e= .returned u∧Hid (SrcAt w' u nm (aflat (mregs ds))∧Fr No W w')):=fun W hW=>by
  have:=mregions_src (.slice am nm cm) ds W (HDS.out W hW) HML.out
  rwa [hnm] at this
 have HRL:Hid ((aflat (mregs ds)).length=nm*3):=by rw [←hnm,←mregs_length ds];exact aflat_length _
 have HRO:Hid (∀u∈aflat (mregs ds),u.oneCell'=true):=aflat_one _
 have HPERM:=Lib.hid hperm
 have HWF:=Lib.hid hwf
 have HFEW:=Lib.hid hfew
 have HTYP:=Lib.hid htyp
 have HHOLD:=Lib.hid hhold
 have HOK:=Lib.hid hok
 have HDR:=Lib.hid hD
 have HND:=Lib.hid hnd
 have h100:nd≤100:=hd
 clear hD hnd
 clear hds hml hmore hnm hno hperm hwf hfew htyp hhold hok
 subst hmv
 subst hdv
 subst hmo
 have HB:Hid (∀(x:Int) W,0≤x→x<18446744073709551616→Calls Tryz.prog 17 #[.int .u64 x, .int .i64 8] W fun e w'=>e= .returned (.string (b8 x))∧Fr No W w'):=fun x W h0 h1=>by
  obtain ⟨n,rfl⟩:=Int.eq_ofNat_of_zero_le h0
  exact (bytes_any n 8 W (by omega) (by omega)).mono fun e w' ⟨he,hf⟩=>⟨he,Fr.of_below hf⟩
 have HB0:Hid (∀W,Calls Tryz.prog 17 #[.int .u64 196608, .int .i64 8] W fun e w'=>e= .returned (.string (b8 196608))∧Fr No W w'):=fun W=>HB.out _ W (by decide) (by decide)
 have HB1:Hid (∀W,Calls Tryz.prog 17 #[.int .u64 (196608+(p:Int)), .int .i64 8] W fun e w'=>e= .returned (.string (b8 (196608+(p:Int))))∧Fr No W w'):=fun W=>HB.out _ W (by omega) (by omega)
 have HB2:Hid (∀W,Calls Tryz.prog 17 #[.int .u64 mark, .int .i64 8] W fun e w'=>e= .returned (.string (b8 mark))∧Fr No W w'):=fun W=>HB.out _ W hmark.1 hmark.2
 have HZ2:Hid (∀W,Calls Tryz.prog 18 #[.int .i64 128] W fun e w'=>e= .returned (.string (zs 128))∧Fr No W w'):=fun W=>hzeros_any 128 W (by decide)
 have HZ:Hid (∀W,Calls Tryz.prog 18 #[.int .i64 512] W fun e w'=>e= .returned (.string (zs 512))∧Fr No W w'):=fun W=>hzeros_any 512 W (by decide)
 have q1:((p:Int) !=(p:Int))=false:=by simp
 have q2:decide ((200:Int)<(p:Int))=false:=by simp;omega
 have q3:decide ((100:Int)<(nd:Int))=false:=by simp;omega
 have q4:decide ((nm:Int)<0)=false:=by simp
 have f1:IntKind.u64.wrap (p:Int)=p:=u64_nat p (by omega)
 have f2:IntKind.u64.wrap (196608+(p:Int))=196608+(p:Int):=IntWalk.u64_in _ (by omega)
 have s0:(b8 196608).size=8:=b8_size _
 have s1:(b8 (196608+(p:Int))).size=8:=b8_size _
 have s2:(b8 mark).size=8:=b8_size _
 clear hmark h256 hd HB
 go_enter Tryz.func6,Tryz.ntmps6
 go_upto_region 3 with fail
 obtain ⟨W0,hW0⟩:∃W0,W0=((w.alloc (.cells #[.slice am nm cm, .int .i64 p] 35)).alloc (.cells #[.string P, .int .u64 mark, .slice none 0 0, .slice ad nd cd] 38)):=⟨_,rfl⟩
 have HC:Hid (∀W,Fr No W0 W→W.cell? ⟨w.heap.size,0,none⟩=some (.slice am nm cm)∧W.cell? ⟨w.heap.size,1,none⟩=some (.int .i64 p)∧W.cell? ⟨w.heap.size+1,0,none⟩=some (.string P)∧W.cell? ⟨w.heap.size+1,1,none⟩=some (.int .u64 mark)
   ∧W.cell? ⟨w.heap.size+1,2,none⟩=some (.slice none 0 0)∧W.cell? ⟨w.heap.size+1,3,none⟩=some (.slice ad nd cd)):=fun W hW=>by
  subst hW0
  refine ⟨hW.cell ?_ id,hW.cell ?_ id,hW.cell ?_ id,hW.cell ?_ id,hW.cell ?_ id,hW.cell ?_ id⟩<;>go_simp
 have HFZ:Hid (∀W,Fr No W0 W→W.frozen? ⟨w.heap.size,0,none⟩=false):=fun W hW=>by
  rw [hW.frozen (HC.out _ (Fr.refl _ _)).1 id]
  subst hW0
  go_simp
 have HS:Hid (W0.heap.size=w.heap.size+2):=Lib.hid (by subst hW0;simp only [World.alloc,Array.size_push])
 have HF0:Hid (Fr No w W0):=by rw [hW0];exact ((Fr.refl _ _).alloc _).alloc _
 rw [←hW0]
 clear hW0
 go_cut [8] (fun s8 wx=>Hid (wx.ownsRow W0.heap.size 69 3 s8 (presL (ownR0 p) (ownR1 mark) ownR2 (ownR3 Pl)).length (aflat (presL (ownR0 p) (ownR1 mark) ownR2 (ownR3 Pl)))∧Fr No W0 wx))
 case first=>
  have HP:Hid (∀W,Fr No W0 W→Calls Tryz.prog 16 #[.slice (some ⟨W.heap.size,0,none⟩) 4 4] (W.alloc (.cells #[.int .u64 65536, .string (b8 196608++b8 (196608+(p:Int))), .bool false, .int .u64 65552, .string (b8 mark), .bool true, .int .u64 131072, .string (zs 512), .bool true, .int .u64 196608, .string P, .bool true] 69))
   fun e w'=>∃v',e= .returned v'∧Hid (w'.ownsRow W0.heap.size 69 3 v' (presL (ownR0 p) (ownR1 mark) ownR2 (ownR3 Pl)).length (aflat (presL (ownR0 p) (ownR1 mark) ownR2 (ownR3 Pl))))∧Fr No W w'):=fun W hW=>by
   rw [HPL.out]
   exact (present_row Pl p mark W0.heap.size W hW.size).mono fun e w' ⟨v',he,h⟩=>⟨v',he,h.out.1,h.out.2⟩
  have HK:Hid (∀W W',Fr No W W'→(W.cell? ⟨w.heap.size,1,none⟩=some (.int .i64 p)∧W.cell? ⟨w.heap.size+1,0,none⟩=some (.string P)∧W.cell? ⟨w.heap.size+1,1,none⟩=some (.int .u64 mark)∧Hid (Fr No W0 W))→
    (W'.cell? ⟨w.heap.size,1,none⟩=some (.int .i64 p)∧W'.cell? ⟨w.heap.size+1,0,none⟩=some (.string P)∧W'.cell? ⟨w.heap.size+1,1,none⟩=some (.int .u64 mark)∧Hid (Fr No W0 W'))):=fun W W' hf h=>⟨hf.cell h.1 id,hf.cell h.2.1 id,hf.cell h.2.2.1 id,h.2.2.2.out.trans hf⟩
  have HK0:Hid (∀W,Fr No W0 W→(W.cell? ⟨w.heap.size,1,none⟩=some (.int .i64 p)∧W.cell? ⟨w.heap.size+1,0,none⟩=some (.string P)∧W.cell? ⟨w.heap.size+1,1,none⟩=some (.int .u64 mark)∧Hid (Fr No W0 W))):=fun W h=>by
   obtain ⟨_,c1,c2,c3,_⟩:=HC.out _ h
   exact ⟨c1,c2,c3,h⟩
  have H0:(W0.drew.cell? ⟨w.heap.size,1,none⟩=some (.int .i64 p)∧W0.drew.cell? ⟨w.heap.size+1,0,none⟩=some (.string P)∧W0.drew.cell? ⟨w.heap.size+1,1,none⟩=some (.int .u64 mark)∧Hid (Fr No W0 W0.drew)):=by
   have hd:=(Fr.refl No W0).drew
   obtain ⟨_,c1,c2,c3,_⟩:=HC.out _ hd
   exact ⟨c1,c2,c3,hd⟩
  go_region_held3 (fun W=>W.cell? ⟨w.heap.size,1,none⟩=some (.int .i64 p)∧W.cell? ⟨w.heap.size+1,0,none⟩=some (.string P)∧W.cell? ⟨w.heap.size+1,1,none⟩=some (.int .u64 mark)∧Hid (Fr No W0 W))
   (first|assumption|exact HK.out _ _ (by assumption) (by assumption)|exact HK0.out _ (by (iterate 5 (refine Fr.trans ?_ (by assumption)));exact (Fr.refl _ _).drew)|exact HK.out _ _ ((Fr.refl _ _).alloc _) (by assumption))
   (first
    |(go_at_call 17;(with_reducible refine (HB0.out _).mono ?_);rintro e w3 ⟨rfl,hf3⟩)
    |(go_at_call 17;(with_reducible refine (HB1.out _).mono ?_);rintro e w4 ⟨rfl,hf4⟩)
    |(go_at_call 17;(with_reducible refine (HB2.out _).mono ?_);rintro e w5 ⟨rfl,hf5⟩)
    |(go_at_call 18;(with_reducible refine (HZ.out _).mono ?_);rintro e w6 ⟨rfl,hf6⟩)
    |(go_at_call 16;(with_reducible refine (HP.out _ (by (iterate 4 (refine Fr.trans ?_ (by assumption)));exact (Fr.refl _ _).drew)).mono ?_);rintro e w7 ⟨v7,rfl,ho7,hf7⟩))
  all_goals go_wp2_with fail
  all_goals go_meet
  all_goals exact ⟨ho7.out,by (iterate 5 (refine Fr.trans ?_ (by assumption)));exact (Fr.refl _ _).drew⟩
 case rest=>
  obtain ⟨i0,hi,hz0,hz1,hz2⟩:=info_parts Tryz.info_areg
  obtain ⟨N1,hN1⟩:∃N1,(presL (ownR0 p) (ownR1 mark) ownR2 (ownR3 Pl)).length=N1:=⟨_,rfl⟩
  have hN14:3≤N1∧N1≤4:=by rw [←hN1];exact presL_len _ _ _ _
  obtain ⟨hN13,hN14⟩:=hN14
  obtain ⟨xs1,hxs1⟩:∃xs1,aflat (presL (ownR0 p) (ownR1 mark) ownR2 (ownR3 Pl))=xs1:=⟨_,rfl⟩
  have HN1:=Lib.hid hN1
  have HXS1:=Lib.hid hxs1
  have HOW:=Lib.hid hcut.out.1
  have HFW:=Lib.hid hcut.out.2
  rw [hN1,hxs1] at HOW
  have HXR:Hid (xs1++aflat (mregs ds)=aflat (ownL p mark Pl ds)):=by unfold ownL;rw [aflat_app,hxs1];exact Lib.hid rfl
  have HLN:Hid ((ownL p mark Pl ds).length=N1+nm):=by unfold ownL;rw [List.length_append,mregs_length,hN1,HNM.out];exact Lib.hid rfl
  have HCC:Hid (∀W oa2 oc2,Fr No W0 W→W.ownsRow W0.heap.size 69 3 (.slice oa2 (N1+nm) oc2) (N1+nm) (aflat (ownL p mark Pl ds))→Calls Tryz.prog 21 #[.slice (some ⟨W.heap.size+1+1,0,none⟩) 3 3] (((W.alloc (.cells #[.int .u64 262144, .string (zs 128), .bool true] 69)).alloc (.cells #[.int .u64 262144, .string (zs 128), .bool true] 69)).alloc (.cells #[.slice oa2 (N1+nm) oc2, .slice (some ⟨W.heap.size+1,0,none⟩) 1 1, .slice ao no co] 65))
   fun e w'=>∃v,e= .returned v∧Hid (RegsAt w' v (ownL p mark Pl ds++natR::more)∧Fr No W w')):=fun W oa2 oc2 hW own=>concat_row W0.heap.size (N1+nm) oc2 no co oa2 ao _ more W own (by omega) (by have:=HFEW.out;omega) (HMORE.out W (HF0.out.trans hW)) HNO.out HLN.out HTYP.out
  have HMN:Hid (∀W v,RegsAt W v (ownL p mark Pl ds++natR::more)→Calls Tryz.prog 20 #[v] W fun e w'=>∃b,e= .returned (.tuple #[.pointer (some ⟨b,0,none⟩), .int .i64 0])∧Hid (Fr No W w'∧MemAt w' b mm (Made W w'))):=fun W v h=>
   (new_is h (by rw [List.length_append,List.length_cons,HLN.out,HNO.out];have:=HFEW.out;omega) HPERM.out HWF.out).mono fun e w' ⟨b,he,h1,h2⟩=>⟨b,he,h1,h2⟩
  have HXN:Hid (∀W mb T,Fr No w W→MemAt W mb mm T→(∀k,T k→From w k∧k<W.heap.size)→Calls Tryz.prog 22 #[.slice am nm cm, .pointer (some ⟨mb,0,none⟩)] W fun e w'=>∃b A H,e= .returned (.tuple #[.pointer (some ⟨b,0,none⟩), .int .i64 0])∧Hid (KSt w b mb (ds.map Tab.new) mm A H T w'∧(∀k,A k∨H k∨T k→k<w'.heap.size)∧(∀k,H k→W.heap.size≤k)∧(∀k,A k→W.heap.size≤k)∧Fr No W w')):=fun W mb T hW hm hT=>
   maps_on w ds mm HML.out HHOLD.out HOK.out _ mb T W (HDS.out W hW) hm hT hW
  have HCM:Hid (∀W,Fr No w W→Calls Tryz.prog 24 #[.slice am nm cm] W fun e w'=>∃a c,e= .returned (.slice a nm c)∧Hid (MapsIn w' (.slice a nm c) ds∧Fr No W w'∧∀k,(Value.slice a nm c).ownBlock=some k→W.heap.size≤k∧k<w'.heap.size)):=fun W hW=>by
   have:=clone_mapsIn (.slice am nm cm) ds W (HDS.out W hW) (by rw [HNM.out];omega)
   rwa [HNM.out] at this
  obtain ⟨oa,oc,rfl⟩:=own_form HOW.out
  obtain ⟨l0,l1,l2,l3,l4,l5⟩:=HC.out wc HFW.out
  clear HB0 HB1 HB2 hcut hN1 hxs1
  go_wp2_with (first
   |(go_at_call 19;(with_reducible refine (HR.out _ (HF0.out.trans HFW.out)).mono ?_);rintro e w1 ⟨u1,rfl,h1⟩;have HOW1:=Lib.hid (ownsRow_fr HOW.out h1.out.2 (fun _ _=>id));have HS1:=Lib.hid h1.out.1;have HF1:=Lib.hid (HFW.out.trans h1.out.2);clear h1 l0 l1 l2 l3 l4 l5)
   |(at_builtin;refine wpList_append_src rfl (.tmp 62) (.tmp 65) 65 rfl W0.heap.size 69 i0 _ 3 32 Tryz.underlying65 hi hz0 hz1 hz2 rfl (by decide) (.slice oa N1 oc) N1 xs1 rfl HOW1.out u1 nm _ rfl HS1.out HRL.out HRO.out (by unfold maxLen;omega) (by omega) HF1.out.size ?_;intro v2 w2 own2 fr2;obtain ⟨oa2,oc2,rfl⟩:=own_form own2;have HOW2:=Lib.hid own2;have HF2:Hid (Fr No W0 w2):=((HF1.out.any.trans (fr2.mono fun q _ hq=>OwnOf.ge HOW1.out hq)):Fr (From W0) W0 w2).ours;clear own2 fr2)
   |(go_at_call 18;(with_reducible refine (HZ2.out _).mono ?_);rintro e w3 ⟨rfl,hf3⟩;have HF3:=Lib.hid (HF2.out.trans hf3);have HOW3:=Lib.hid (ownsRow_fr HOW2.out hf3 (fun _ _=>id));clear hf3)
   |(go_at_call 21;(with_reducible refine (HCC.out _ _ _ HF3.out (by rw [←HXR.out];exact HOW3.out)).mono ?_);rintro e w4 ⟨v4,rfl,h4⟩;have HG4:=Lib.hid h4.out.1;have HF4:=Lib.hid (HF3.out.trans h4.out.2);have HOW4:=Lib.hid (ownsRow_fr HOW3.out h4.out.2 (fun _ _=>id));clear h4)
   |(go_at_call 20;(with_reducible refine (HMN.out _ _ HG4.out).mono ?_);rintro e w5 ⟨mb,rfl,h5⟩;have HF5:=Lib.hid (HF4.out.trans h5.out.1);have HM5:=Lib.hid h5.out.2;have Z45:=Lib.hid h5.out.1.size;have HOW5:=Lib.hid (ownsRow_fr HOW4.out h5.out.1 (fun _ _=>id));clear h5;have HT5:Hid (∀k,Made w4 w5 k→From w k∧k<w5.heap.size):=fun k hk=>⟨Nat.le_trans (HF0.out.trans HF4.out).size hk.1,hk.2⟩;obtain ⟨l0,l1,l2,l3,l4,l5⟩:=HC.out _ HF5.out)
   |(go_at_call 22;(with_reducible refine (HXN.out _ _ _ (HF0.out.trans HF5.out) HM5.out HT5.out).mono ?_);rintro e w6 ⟨b,A,H,rfl,h6⟩;have HF6:=Lib.hid (HF5.out.trans h6.out.2.2.2.2);have HK6:=Lib.hid h6.out;have Z56:=Lib.hid h6.out.2.2.2.2.size;have HOW6:=Lib.hid (ownsRow_fr HOW5.out h6.out.2.2.2.2 (fun _ _=>id));clear h6 l0 l1 l2 l3 l4 l5;obtain ⟨l0,l1,l2,l3,l4,l5⟩:=HC.out _ HF6.out))
  refine wp_loop_rounds 1 ?_
  rw [rounds_succ]
  go_upto_region 23 with (first
   |(go_at_call 24;(with_reducible refine (HCM.out _ (HF0.out.trans HF6.out)).mono ?_);rintro e w7 ⟨a7,c7,rfl,h7⟩;have HF7:=Lib.hid (HF6.out.trans h7.out.2.1);have HC7:=Lib.hid h7.out;clear h7 l0 l1 l2 l3 l4 l5;obtain ⟨l0,l1,l2,l3,l4,l5⟩:=HC.out _ HF7.out;have lz:=HFZ.out _ HF7.out))
  obtain ⟨W8,hW8⟩:∃W8,W8=w7.setCell ⟨w.heap.size,0,none⟩ (.slice a7 nm c7):=⟨_,rfl⟩
  have HF8:Hid (Fr (fun k=>k=w.heap.size) w7 W8):=by rw [hW8];exact (Fr.refl (fun k=>k=w.heap.size) w7).setCell (p:=⟨w.heap.size,0,none⟩) (.inr rfl) _
  have HC8:Hid (∀W,Fr No W8 W→(W.cell? ⟨w.heap.size,0,none⟩=some (.slice a7 nm c7)∧W.cell? ⟨w.heap.size,1,none⟩=some (.int .i64 p)∧W.cell? ⟨w.heap.size+1,3,none⟩=some (.slice ad nd cd)∧Hid (Fr No W8 W))):=fun W hW=>by
   refine ⟨hW.cell ?_ id,hW.cell ?_ id,hW.cell ?_ id,hW⟩<;>(subst hW8;go_simp)
  rw [←hW8]
  clear hW8 l0 l1 l2 l3 l4 l5 lz
  have HW8:Hid (Fr No w W8):=(((HF0.out.trans HF7.out).any.trans (HF8.out.mono fun k _ hk=>by show w.heap.size≤k;omega)):Fr (From w) w W8).ours
  have HCD:Hid (∀W,Fr No W8 W→Calls Tryz.prog 25 #[.slice ad nd cd] W fun e w'=>∃a c,e= .returned (.slice a nd c)∧Hid (U64sIn w' (.slice a nd c) D∧∀k,(Value.slice a nd c).ownBlock=some k→W8.heap.size≤k∧k<w'.heap.size)∧Fr No W8 w'):=fun W hW=>by
   have h:=clone_draws (.slice ad nd cd) D W (HDR.out.fr (HW8.out.trans hW) (fun _ _=>id)) (by rw [HND.out];omega)
   rw [HND.out] at h
   refine h.mono ?_
   rintro e w' ⟨a,c,he,h⟩
   exact ⟨a,c,he,⟨h.out.1,fun k hk=>⟨Nat.le_trans hW.size (h.out.2.2 k hk).1,(h.out.2.2 k hk).2⟩⟩,hW.trans h.out.2.1⟩
  have H0:=HC8.out W8.drew ((Fr.refl _ _).drew)
  go_region_held3 (fun W=>W.cell? ⟨w.heap.size,0,none⟩=some (.slice a7 nm c7)∧W.cell? ⟨w.heap.size,1,none⟩=some (.int .i64 p)∧W.cell? ⟨w.heap.size+1,3,none⟩=some (.slice ad nd cd)∧Hid (Fr No W8 W))
   (first|assumption|exact HC8.out _ (by assumption)|exact HC8.out _ (Fr.alloc (by assumption) _))
   (first
    |(go_at_call 25;(with_reducible refine (HCD.out _ ((Fr.refl _ _).drew)).mono ?_);rintro e w9 ⟨a9,c9,rfl,h9,hf9⟩))
  all_goals go_wp2_with fail
  all_goals go_ret2
  all_goals exact ⟨_,b,mb,A,H,Made w4 w5,_,_,_,rfl,WAt.start (W0:=W0) 84 rfl (by have h1:=HF4.out.size;have h2:=HS.out;omega) (HF0.out.trans HF4.out).size Z45.out Z56.out HK6.out.1 HK6.out.2.1 HK6.out.2.2.1 HK6.out.2.2.2.1 HC7.out.2.1 HF8.out hf9 HC7.out.1 HC7.out.2.2
   (HXR.out ▸ HOW4.out) (HXR.out ▸ HOW6.out) (by have h2:=HS.out;omega) HLN.out (by omega) (fun r hr=>HTYP.out r (List.mem_append_left _ hr)) h9.out.1 h9.out.2,(HW8.out.trans hf9).alloc _⟩
theorem WF.app{a b:List Reg}(ha:WF a)(hb:WF b)(c:Int)(h1:∀x∈a,x.base+x.len≤c)(h2:∀y∈b,c≤y.base)(hl:(a++b).length≤4611686018427387904):WF (a++b):=
 ⟨fun r hr=>(List.mem_append.1 hr).elim (ha.ok r) (hb.ok r),List.pairwise_append.2 ⟨ha.apart,hb.apart,fun x hx y hy=>by have:=h1 x hx;have:=h2 y hy;omega⟩,hl⟩
theorem WF.one{r:Reg}(h:r.ok):WF [r]:=
 ⟨fun x hx=>by rw [List.mem_singleton.1 hx];exact h,List.pairwise_singleton _ _,by simp⟩
theorem WF.cons{r:Reg}{m:List Reg}(hr:r.ok)(hm:WF m)(h:∀y∈m,r.base+r.len≤y.base)(hl:m.length+1≤4611686018427387904):WF (r::m):=
 ⟨fun x hx=>by rcases List.mem_cons.1 hx with rfl|hx;exact hr;exact hm.ok x hx,List.pairwise_cons.2 ⟨h,hm.apart⟩,hl⟩
def memL(p:Nat)(mark:Int)(Pl:List UInt8)(ds:List MapD)(more:List Reg):List Reg:=presL (ownR0 p) (ownR1 mark) ownR2 (ownR3 Pl)++(natR::(more++mregs ds))
theorem memL_perm(p:Nat)(mark:Int)(Pl:List UInt8)(ds:List MapD)(more:List Reg):(memL p mark Pl ds more).Perm (ownL p mark Pl ds++natR::more):=by
 unfold memL ownL
 rw [List.append_assoc]
 exact List.Perm.append_left _ (List.perm_append_comm (l₁:=natR::more) (l₂:=mregs ds))
theorem ok_of{r:Reg}(n:Nat)(hn:r.data.length=n)(h0:0<n)(h1:0≤r.base)(h2:r.base+(n:Int)≤18446744073709551615)(h3:n≤9223372036854775807):r.ok:=
 ⟨h1,by omega,by unfold Reg.len;rw [hn];exact h2,by omega⟩
theorem ld0(p:Nat):(ownR0 p).data.length=16:=by
 show (leBytes 8 196608++leBytes 8 (196608+p)).length=16
 rw [List.length_append,leBytes_length,leBytes_length]
theorem ld1(mark:Int):(ownR1 mark).data.length=8:=leBytes_length _ _
theorem ld2:ownR2.data.length=512:=List.length_replicate
theorem ldn:natR.data.length=128:=List.length_replicate
theorem ok0(p:Nat):(ownR0 p).ok:=ok_of 16 (ld0 p) (by omega) (show (0:Int)≤65536 by omega) (show (65536:Int)+16≤_ by omega) (by omega)
theorem ok1(mark:Int):(ownR1 mark).ok:=ok_of 8 (ld1 mark) (by omega) (show (0:Int)≤65552 by omega) (show (65552:Int)+8≤_ by omega) (by omega)
theorem ok2:ownR2.ok:=ok_of 512 ld2 (by omega) (show (0:Int)≤131072 by omega) (show (131072:Int)+512≤_ by omega) (by omega)
theorem ok3(Pl:List UInt8)(h0:Pl≠ [])(h:Pl.length≤200):(ownR3 Pl).ok:=ok_of Pl.length rfl (List.length_pos_iff.2 h0) (show (0:Int)≤196608 by omega) (show (196608:Int)+_≤_ by omega) (by omega)
theorem okn:natR.ok:=ok_of 128 ldn (by omega) (show (0:Int)≤262144 by omega) (show (262144:Int)+128≤_ by omega) (by omega)
theorem len0(p:Nat):(ownR0 p).len=16:=by unfold Reg.len;rw [ld0];rfl
theorem len1(mark:Int):(ownR1 mark).len=8:=by unfold Reg.len;rw [ld1];rfl
theorem len2:ownR2.len=512:=by unfold Reg.len;rw [ld2];rfl
theorem lenn:natR.len=128:=by unfold Reg.len;rw [ldn];rfl
theorem pres_wf(p:Nat)(mark:Int)(Pl:List UInt8)(h:Pl.length≤200):WF (presL (ownR0 p) (ownR1 mark) ownR2 (ownR3 Pl))∧∀x∈presL (ownR0 p) (ownR1 mark) ownR2 (ownR3 Pl),x.base+x.len≤262144:=by
 have l0:=len0 p
 have l1:=len1 mark
 have l2:=len2
 have l3:(ownR3 Pl).len=Pl.length:=rfl
 have b0:(ownR0 p).base=65536:=rfl
 have b1:(ownR1 mark).base=65552:=rfl
 have b2:ownR2.base=131072:=rfl
 have b3:(ownR3 Pl).base=196608:=rfl
 have o0:=ok0 p
 have o1:=ok1 mark
 have o3:=fun h0=>ok3 Pl h0 h
 generalize ownR0 p=r0 at*
 generalize ownR1 mark=r1 at*
 unfold presL
 split
 ·refine ⟨WF.cons o0 (WF.cons o1 (WF.one ok2) ?_ (by decide)) ?_ (by simp),?_⟩
  ·intro y hy;rw [List.mem_singleton.1 hy];omega
  ·intro y hy
   simp only [List.mem_cons,List.not_mem_nil,or_false] at hy
   rcases hy with rfl|rfl<;>omega
  ·intro y hy
   simp only [List.mem_cons,List.not_mem_nil,or_false] at hy
   rcases hy with rfl|rfl|rfl<;>omega
 ·rename_i h0
  refine ⟨WF.cons o0 (WF.cons o1 (WF.cons ok2 (WF.one (o3 h0)) ?_ (by simp)) ?_ (by simp)) ?_ (by simp),?_⟩
  ·intro y hy;rw [List.mem_singleton.1 hy];omega
  ·intro y hy
   simp only [List.mem_cons,List.not_mem_nil,or_false] at hy
   rcases hy with rfl|rfl<;>omega
  ·intro y hy
   simp only [List.mem_cons,List.not_mem_nil,or_false] at hy
   rcases hy with rfl|rfl|rfl<;>omega
  ·intro y hy
   simp only [List.mem_cons,List.not_mem_nil,or_false] at hy
   rcases hy with rfl|rfl|rfl|rfl<;>omega
structure MoreOk(more:List Reg):Prop where
 wf:WF more
 lo:∀r∈more,262272≤r.base
 hi:∀r∈more,r.base+r.len≤1048576
 few:more.length≤3
theorem mregs_lo(ds:List MapD):∀r∈mregs ds,1048576≤r.base:=by
 intro r hr
 obtain ⟨i,hi,rfl⟩:=List.getElem_of_mem hr
 have hl:i<ds.length:=by rw [mregs_length] at hi;exact hi
 have hg:=mregs_get ds i
 rw [List.getElem?_eq_getElem hi,List.getElem?_eq_getElem hl] at hg
 rw [Option.some.inj hg]
 show 1048576≤mbase i
 unfold mbase
 omega
theorem memL_wf(p:Nat)(mark:Int)(Pl:List UInt8)(ds:List MapD)(more:List Reg)(h:Pl.length≤200)(hds:mayL ds=true)(hm:MoreOk more):WF (memL p mark Pl ds more):=by
 obtain ⟨hp,hb⟩:=pres_wf p mark Pl h
 have h4:=((mayL_iff ds).1 hds).1
 have ln:=lenn
 have bn:natR.base=262144:=rfl
 have hlen:=(presL_len (ownR0 p) (ownR1 mark) ownR2 (ownR3 Pl)).2
 have hf:=hm.few
 have hml:=mregs_length ds
 refine WF.app hp (WF.cons okn (WF.app hm.wf (mregs_wf hds) 1048576 hm.hi (mregs_lo ds) ?_) ?_ ?_) 262144 hb ?_ ?_
 ·rw [List.length_append];omega
 ·intro y hy
  rcases List.mem_append.1 hy with hy|hy
  ·have:=hm.lo y hy;omega
  ·have:=mregs_lo ds y hy;omega
 ·rw [List.length_append];omega
 ·intro y hy
  rcases List.mem_cons.1 hy with rfl|hy
  ·omega
  rcases List.mem_append.1 hy with hy|hy
  ·have:=hm.lo y hy;omega
  ·have:=mregs_lo ds y hy;omega
 ·rw [List.length_append,List.length_cons,List.length_append];omega
theorem memL_ok(p:Nat)(mark:Int)(Pl:List UInt8)(ds:List MapD)(more:List Reg)(h:Pl.length≤200)(hds:mayL ds=true)(hm:MoreOk more):MemOk (memL p mark Pl ds more):=by
 obtain ⟨hp,hb⟩:=pres_wf p mark Pl h
 have h4:=((mayL_iff ds).1 hds).1
 have hlen:=(presL_len (ownR0 p) (ownR1 mark) ownR2 (ownR3 Pl)).2
 have hf:=hm.few
 have hml:=mregs_length ds
 refine ⟨?_,?_⟩
 ·unfold memL;rw [List.length_append,List.length_cons,List.length_append];omega
 ·intro r hr
  unfold memL at hr
  rcases List.mem_append.1 hr with hr|hr
  ·have h1:=hb r hr
   have h2:=(hp.ok r hr).low
   unfold Reg.len at h1
   omega
  rcases List.mem_cons.1 hr with rfl|hr
  ·simp [natR]
  rcases List.mem_append.1 hr with hr|hr
  ·have h1:=hm.hi r hr
   have h2:=hm.lo r hr
   unfold Reg.len at h1
   omega
  ·exact (mregs_ok hds).2 r hr
theorem memL_holds(p:Nat)(mark:Int)(Pl:List UInt8)(ds:List MapD)(more:List Reg)(hds:mayL ds=true):holdsB (mregsOf ds) (memL p mark Pl ds more)=true:=by
 have h:=holds_self hds
 unfold holdsB at h ⊢
 rw [List.all_eq_true] at h ⊢
 intro x hx
 have:=h x hx
 rw [List.any_eq_true] at this ⊢
 obtain ⟨y,hy,hf⟩:=this
 exact ⟨y,by unfold memL;exact List.mem_append_right _ (List.mem_cons_of_mem _ (List.mem_append_right _ hy)),hf⟩
theorem ok_typed{r:Reg}(h:r.ok):r.typed:=⟨h.low,by have:=h.high;unfold Reg.len at this;omega,h.small⟩
theorem hnew_made(Pl:List UInt8)(P:ByteArray)(p:Nat)(mark:Int)(mv dv mo:Value)(ds:List MapD)(w:World)(hPl:P=⟨Pl.toArray⟩)(hp:Pl.length=p)(hds:MapsIn w mv ds)(hml:mayL ds=true)(more:List Reg)(no co:Nat)(ao:Option Addr)(hmore:SrcAt w mo no (aflat more))(hmo:mo= .slice ao no co)(hno:more.length=no)(hok:MoreOk more)
  (D:List Int) (hD:U64sIn w dv D) (hd:D.length≤100) (h256:p≤200) (hmark:0≤mark∧mark<18446744073709551616):
  Calls Tryz.prog 6 #[.agg #[mv, .int .i64 p], .agg #[.string P, .int .u64 mark, .slice none 0 0,dv],mo] w (HNewQ w ds p mark Pl D (memL p mark Pl ds more)):=by
 obtain ⟨am,cm,hm⟩:=hds.form
 obtain ⟨ad,cd,hdv⟩:=hD.form
 have hps:P.size=p:=by rw [hPl];show Pl.toArray.size=p;rw [List.size_toArray];exact hp
 have hwf:=memL_wf p mark Pl ds more (by omega) hml hok
 have h4:=((mayL_iff ds).1 hml).1
 have hf:=hok.few
 exact hnew_walk Pl P p mark mv mo dv am ad ao _ cm _ cd no co ds w hPl hps (hm ▸ hds) rfl hml more (hmo ▸ hmore) hno _ (memL_perm p mark Pl ds more) hwf (by omega)
  (fun r hr=>ok_typed (hwf.ok r ((memL_perm p mark Pl ds more).mem_iff.2 hr))) (memL_holds p mark Pl ds more hml) (memL_ok p mark Pl ds more (by omega) hml hok) D (hdv ▸ hD) rfl h256 hd hm hdv hmo hmark
end Go.Proofs.YtjcgmhlbkheadaaGreatDoor
