/- helpers.New. A world's none, Memory, Maps, Layout's parts, draw; Own. (*World).Copy. a world behind Copy. A world stays behind what changes no block of its own. (*World).Own. helpers.Args: the map of .. -/
import Derived.Test.YtjcgmhlbkheadaaGreatDoorCore14
import Derived.Deep.RegionHeld3
import Derived.Deep.DeepCutAuto
import Derived.Deep.RegionWith
import Derived.Test.YtjcgmhlbkheadaaGreatDoorCore9
import Derived.Test.YtjcgmhlbkheadaaGreatDoorCore12
import Derived.Maps.OwnSet
set_option linter.all false
set_option linter.unusedVariables false
set_option linter.unusedSimpArgs false
set_option maxRecDepth 100000
set_option maxHeartbeats 2000000
namespace Go.Proofs.YtjcgmhlbkheadaaGreatDoor
open Go.RowKit
def b8(x:Int):ByteArray:=⟨(leBytes 8 x.toNat).toArray⟩
theorem b8_size(x:Int):(b8 x).size=8:=by
 show (leBytes 8 x.toNat).toArray.size=8
 simp
def ownR0(p:Nat):Reg:=⟨65536,leBytes 8 196608++leBytes 8 (196608+p),false⟩
def ownR1(mark:Int):Reg:=⟨65552,leBytes 8 mark.toNat,true⟩
def ownR2:Reg:=⟨131072,List.replicate 512 0,true⟩
def ownR3(P:List UInt8):Reg:=⟨196608,P,true⟩
def natR:Reg:=⟨262144,List.replicate 128 0,true⟩
theorem own_form{w:World}{base size n:Nat}{e:TypeId}{v:Value}{xs:List Value}(h:w.ownsRow base e size v n xs):∃a c,v= .slice a n c:=by
 rcases h.2 with ⟨rfl,h0⟩|⟨g,cap,cur,hv,_⟩
 ·subst h0;exact ⟨_,_,rfl⟩
 ·exact ⟨_,_,hv⟩
theorem mregions_src(v:Value)(l:List MapD)(w:World)(h:MapsIn w v l)(hq:mayL l=true):
  Calls Tryz.prog 19 #[v] w fun e w'=>∃u,e= .returned u∧Hid (SrcAt w' u l.length (aflat (mregs l))∧Fr No w w'):=by
 have h4:=((mayL_iff l).1 hq).1
 by_cases h0:l= []
 ·subst h0
  have hmay:=may_any v [] w h (by simp)
  obtain ⟨a,c,rfl⟩:=h.form
  refine (mregions_zero a c w (by simpa [mayL] using hmay)).mono ?_
  rintro e w' ⟨he,hf⟩
  exact ⟨_,he, .inl ⟨rfl,rfl,rfl⟩,hf⟩
 ·refine (mregions_any v l w h (by omega)).mono ?_
  rintro e w' ⟨u,he,hu,hf⟩
  rw [show mregsOf l=mregs l by unfold mregsOf;rw [if_pos hq]] at hu
  refine ⟨u,he,?_,hf⟩
  rcases hu.2 with ⟨h1,_⟩|⟨g,off,cap,rfl,hc⟩
  ·have:=mregs_length l
   rw [h1] at this
   exact absurd (List.eq_nil_of_length_eq_zero this.symm) h0
  ·rw [mregs_length]
   exact .inr ⟨_,_,rfl,fun j v hj=>by rw [Addr.add_lit];exact hc j v hj⟩
theorem aflat_one(l:List Reg):∀u∈aflat l,u.oneCell'=true:=by
 intro u hu
 obtain ⟨r,_,hr⟩:=List.mem_flatMap.1 hu
 simp only [Reg.cells,List.mem_cons,List.not_mem_nil,or_false] at hr
 rcases hr with rfl|rfl|rfl<;>rfl
theorem aflat_app(a b:List Reg):aflat (a++b)=aflat a++aflat b:=by simp [aflat]
theorem src_of_own{w:World}{base n:Nat}{v:Value}{xs:List Value}(h:w.ownsRow base 69 3 v n xs)(hn:0<n):SrcAt w v n xs:=by
 obtain ⟨g,cap,rfl,_,hc⟩:=cells_of_owns h hn
 exact .inr ⟨_,_,rfl,fun j u hj=>by rw [Addr.add_lit];exact hc j u hj⟩
theorem concat_row(base N2 oc no co:Nat)(oa ao:Option Addr)(RL more:List Reg)(W:World)(own:W.ownsRow base 69 3 (.slice oa N2 oc) N2 (aflat RL))(h1:1≤N2)(hb:N2+1+no≤100000)
  (hm:SrcAt W (.slice ao no co) no (aflat more)) (hno:more.length=no) (hRL:RL.length=N2) (ht:∀r∈RL++natR::more,r.typed):
  Calls Tryz.prog 21 #[.slice (some ⟨W.heap.size+1+1,0,none⟩) 3 3] (((W.alloc (.cells #[.int .u64 262144, .string (zs 128), .bool true] 69)).alloc (.cells #[.int .u64 262144, .string (zs 128), .bool true] 69)).alloc (.cells #[.slice oa N2 oc, .slice (some ⟨W.heap.size+1,0,none⟩) 1 1, .slice ao no co] 65))
   fun e w'=>∃v,e= .returned v∧Hid (RegsAt w' v (RL++natR::more)∧Fr No W w'):=by
 obtain ⟨W1,hW1⟩:∃W1,W1=W.alloc (.cells #[.int .u64 262144, .string (zs 128), .bool true] 69):=⟨_,rfl⟩
 have s1:W1.heap.size=W.heap.size+1:=by rw [hW1];simp only [World.alloc,Array.size_push]
 have f1:Fr No W W1:=by rw [hW1];exact (Fr.refl _ _).alloc _
 rw [←hW1]
 obtain ⟨W2,hW2⟩:∃W2,W2=W1.alloc (.cells #[.int .u64 262144, .string (zs 128), .bool true] 69):=⟨_,rfl⟩
 have s2:W2.heap.size=W.heap.size+1+1:=by rw [hW2,←s1];simp only [World.alloc,Array.size_push]
 have f2:Fr No W1 W2:=by rw [hW2];exact (Fr.refl _ _).alloc _
 have cN:CellsAt W2 (W.heap.size+1) 0 (aflat [natR]):=by rw [hW2,←s1];exact CellsAt.new W1 (aflat [natR]) _
 rw [←hW2]
 obtain ⟨W3,hW3⟩:∃W3,W3=W2.alloc (.cells #[.slice oa N2 oc, .slice (some ⟨W.heap.size+1,0,none⟩) 1 1, .slice ao no co] 65):=⟨_,rfl⟩
 have f3:Fr No W2 W3:=by rw [hW3];exact (Fr.refl _ _).alloc _
 have cS:CellsAt W3 (W.heap.size+1+1) 0 [.slice oa N2 oc, .slice (some ⟨W.heap.size+1,0,none⟩) 1 1, .slice ao no co]:=by rw [hW3,←s2];exact CellsAt.new W2 _ _
 rw [←hW3]
 have f:Fr No W W3:=(f1.trans f2).trans f3
 have lR:=aflat_length RL
 have lM:=aflat_length more
 refine (concat_walk (W.heap.size+1+1) 3 3 (N2+1+no) [⟨oa,N2,oc,aflat RL⟩,⟨some ⟨W.heap.size+1,0,none⟩,1,1,aflat [natR]⟩,⟨ao,no,co,aflat more⟩] W3 rfl (by omega) (by simp only [catN,List.map_cons,List.map_nil,List.sum_cons,List.sum_nil];omega) (by omega) (by omega) ?_ ?_).mono ?_
 ·intro k x hx
  match k,hx with
  |0,hx=>cases hx;have:=cS 0 _ rfl;rwa [Nat.zero_add] at this
  |1,hx=>cases hx;have:=cS 1 _ rfl;rwa [Nat.zero_add] at this
  |2,hx=>cases hx;have:=cS 2 _ rfl;rwa [Nat.zero_add] at this
  |k+3,hx=>simp at hx
 ·intro x hx
  simp only [List.mem_cons,List.not_mem_nil,or_false] at hx
  rcases hx with rfl|rfl|rfl
  ·exact ⟨fun W' hW'=>(src_of_own own h1).fr (f.trans hW') (fun _ _=>id),by show (aflat RL).length=N2*3;omega,aflat_one _⟩
  ·exact ⟨fun W' hW'=> .inr ⟨_,_,rfl,fun j u hj=>by rw [Addr.add_lit];exact (f3.trans hW').cells cN id j u hj⟩,rfl,aflat_one _⟩
  ·exact ⟨fun W' hW'=>hm.fr (f.trans hW') (fun _ _=>id),by show (aflat more).length=no*3;omega,aflat_one _⟩
 ·rintro e w' ⟨v,he,h⟩
  refine ⟨v,he,⟨ht,?_⟩,f.trans h.out.2⟩
  have hx:catX [⟨oa,N2,oc,aflat RL⟩,⟨some ⟨W.heap.size+1,0,none⟩,1,1,aflat [natR]⟩,⟨ao,no,co,aflat more⟩]=aflat (RL++natR::more):=by
   rw [aflat_app]
   simp [catX,aflat]
  have ho:=h.out.1
  rw [hx] at ho
  obtain ⟨g,cap,rfl,_,hc⟩:=cells_of_owns ho (by omega)
  refine .inr ⟨g,0,cap,?_,hc⟩
  rw [List.length_append,List.length_cons,hRL,hno,show N2+(no+1)=N2+1+no by omega]
theorem b8_app(x y:Int):b8 x++b8 y=⟨(leBytes 8 x.toNat++leBytes 8 y.toNat).toArray⟩:=by
 apply ByteArray.ext
 simp [b8,ByteArray.data_append]
theorem present_row(Pl:List UInt8)(p:Nat)(mark:Int)(base:Nat)(W:World)(hb:base≤W.heap.size):
  Calls Tryz.prog 16 #[.slice (some ⟨W.heap.size,0,none⟩) 4 4] (W.alloc (.cells #[.int .u64 65536, .string (b8 196608++b8 (196608+(p:Int))), .bool false, .int .u64 65552, .string (b8 mark), .bool true, .int .u64 131072, .string (zs 512), .bool true, .int .u64 196608, .string ⟨Pl.toArray⟩, .bool true] 69))
   fun e w'=>∃v',e= .returned v'∧Hid (w'.ownsRow base 69 3 v' (presL (ownR0 p) (ownR1 mark) ownR2 (ownR3 Pl)).length (aflat (presL (ownR0 p) (ownR1 mark) ownR2 (ownR3 Pl)))∧Fr No W w'):=by
 have hl:∀n v,leBytes (n+1) v≠ []:=fun n v h=>by have:=congrArg List.length h;simp at this
 refine (present_any (ownR0 p) (ownR1 mark) ownR2 (ownR3 Pl) W.heap.size base _ ?_ ?_ ?_ ?_).mono ?_
 ·refine ⟨rfl, .inr ⟨W.heap.size,4,_,rfl,hb,heap_alloc_new W _,by decide,by decide,rfl,?_⟩⟩
  rw [b8_app]
  rfl
 ·unfold ownR0
  intro h
  exact hl 7 _ (List.append_eq_nil_iff.1 h).1
 ·exact hl 7 _
 ·show List.replicate 512 (0:UInt8)≠ []
  rw [Ne,List.replicate_eq_nil_iff]
  decide
 ·rintro e w' ⟨v',he,ho,hf⟩
  refine ⟨v',he,ho,?_⟩
  have h1:Fr (From W) W w':=(((Fr.refl No W).alloc _).any).trans (hf.mono fun q _ hq=>by show W.heap.size≤q;omega)
  exact h1.ours
structure WAt(w0:World)(bw b mb:Nat)(ds:List MapD)(p:Nat)(RL:List Reg)(D:List Int)(S:List Tab)(m:List Reg)(A H T:Nat→Prop)(mv ov dv:Value)(wr:World):Prop where
 c0:wr.cell? ⟨bw,0,none⟩=some (.bool true)
 c1:wr.cell? ⟨bw,1,none⟩=some mv
 c2:wr.cell? ⟨bw,2,none⟩=some (.int .i64 p)
 c3:wr.cell? ⟨bw,3,none⟩=some ov
 c4:wr.cell? ⟨bw,4,none⟩=some (.pointer (some ⟨mb,0,none⟩))
 c5:wr.cell? ⟨bw,5,none⟩=some (.pointer (some ⟨b,0,none⟩))
 c6:wr.cell? ⟨bw,6,none⟩=some dv
 open6:wr.frozen? ⟨bw,6,none⟩=false
 nb:¬A bw∧¬H bw∧¬T bw
 lo:From w0 bw
 maps:MapsIn wr mv ds
 mapsA:Apart (fun k=>H k∨T k∨k=bw) mv
 own:RegsAt wr ov RL
 ownA:Apart (fun k=>H k∨T k∨k=bw) ov
 draws:U64sIn wr dv D
 drawsA:Apart (fun k=>H k∨T k∨k=bw) dv
 k:KSt w0 b mb S m A H T wr
 lt:∀k,A k∨H k∨T k→k<wr.heap.size
 ltv:∀k,mv.ownBlock=some k∨ov.ownBlock=some k∨dv.ownBlock=some k→k<wr.heap.size
theorem WAt.start{w W0 w4 w5 w6 w7 W8 w9:World}{B b mb N2 p:Nat}{ds:List MapD}{RL mm:List Reg}{S:List Tab}{D:List Int}{A H:Nat→Prop}{mv ov dv:Value}(t:TypeId)
  (hB:B=w.heap.size) (hB4:B<w4.heap.size) (hf4:w.heap.size≤w4.heap.size) (h45:w4.heap.size≤w5.heap.size) (h56:w5.heap.size≤w6.heap.size)
  (hk:KSt w b mb S mm A H (Made w4 w5) w6) (hlt:∀k,A k∨H k∨Made w4 w5 k→k<w6.heap.size) (hH:∀k,H k→w5.heap.size≤k) (hA:∀k,A k→w5.heap.size≤k) (f67:Fr No w6 w7) (f78:Fr (fun k=>k=B) w7 W8) (f89:Fr No W8 w9)
  (hm:MapsIn w7 mv ds) (hmA:∀k,mv.ownBlock=some k→w6.heap.size≤k∧k<w7.heap.size)
  (ho4:w4.ownsRow W0.heap.size 69 3 ov N2 (aflat RL)) (ho:w6.ownsRow W0.heap.size 69 3 ov N2 (aflat RL)) (hoB:B<W0.heap.size) (hRL:RL.length=N2) (hN2:0<N2) (htyp:∀r∈RL,r.typed)
  (hd:U64sIn w9 dv D) (hdA:∀k,dv.ownBlock=some k→W8.heap.size≤k∧k<w9.heap.size):
  WAt w w9.heap.size b mb ds p RL D S mm A H (Made w4 w5) mv ov dv (w9.alloc (.cells #[.bool true,mv, .int .i64 p,ov, .pointer (some ⟨mb,0,none⟩), .pointer (some ⟨b,0,none⟩),dv] t)):=by
 obtain ⟨w',hw'⟩:∃w',w'=w9.alloc (.cells #[.bool true,mv, .int .i64 p,ov, .pointer (some ⟨mb,0,none⟩), .pointer (some ⟨b,0,none⟩),dv] t):=⟨_,rfl⟩
 have f9:Fr No w9 w':=by rw [hw'];exact (Fr.refl _ _).alloc _
 have cs:CellsAt w' w9.heap.size 0 [.bool true,mv, .int .i64 p,ov, .pointer (some ⟨mb,0,none⟩), .pointer (some ⟨b,0,none⟩),dv]:=by rw [hw'];exact CellsAt.new w9 _ t
 have fz:w'.frozen? ⟨w9.heap.size,6,none⟩=false:=by rw [hw'];exact World.frozen?_alloc_new _ _ _ _
 have sz:w'.heap.size=w9.heap.size+1:=by rw [hw'];simp only [World.alloc,Array.size_push]
 rw [←hw']
 have z67:=f67.size
 have z78:=f78.size
 have z89:=f89.size
 have big:∀k,A k∨H k∨Made w4 w5 k→k<w9.heap.size:=fun k hk=>by have:=hlt k hk;omega
 have hBB:∀k,A k∨H k∨Made w4 w5 k→k≠B:=fun k hk=>by
  rcases hk with h|h|h
  ·have:=hA k h;omega
  ·have:=hH k h;omega
  ·have:=h.1;omega
 have k7:KSt w b mb S mm A H (Made w4 w5) w7:=hk.to f67
 have k8:KSt w b mb S mm A H (Made w4 w5) W8:=k7.apart f78 (fun k hk=>by show w.heap.size≤k;omega) (fun k h=>hBB k (.inl h)) (fun k h=>hBB k (.inr (.inl h))) (fun k h=>hBB k (.inr (.inr h)))
 have k9:KSt w b mb S mm A H (Made w4 w5) w':=(k8.to f89).to f9
 have c:=fun j u (h:([.bool true,mv, .int .i64 p,ov, .pointer (some ⟨mb,0,none⟩), .pointer (some ⟨b,0,none⟩),dv]:List Value)[j]? =some u)=>cs j u h
 simp only [Nat.zero_add] at c
 obtain ⟨g,cap,hov,hg,_⟩:=cells_of_owns ho4 hN2
 have hg4:g<w4.heap.size:=by
  rcases ho4.2 with ⟨_,h0⟩|⟨g',cap',cur,hv,_,hgs,_⟩
  ·omega
  ·rw [hov] at hv
   injection hv with e1 _ _
   cases e1
   exact (Array.getElem?_eq_some_iff.1 hgs).1
 refine ⟨c 0 _ rfl,c 1 _ rfl,c 2 _ rfl,c 3 _ rfl,c 4 _ rfl,c 5 _ rfl,c 6 _ rfl,fz,⟨fun h=> ?_,fun h=> ?_,fun h=> ?_⟩,?_,?_,?_,?_,?_,?_,?_,k9,?_,?_⟩
 ·have:=big _ (.inl h);omega
 ·have:=big _ (.inr (.inl h));omega
 ·have:=big _ (.inr (.inr h));omega
 ·show w.heap.size≤w9.heap.size
  have:=hk.fr.size
  omega
 ·exact ((hm.frS f78 (fun k hk (e:k=B)=>by have:=hmA k hk;omega)).fr f89).fr f9
 ·intro k hk
  have h1:=hmA k hk
  rintro (h|h|h)
  ·have:=hlt k (.inr (.inl h));omega
  ·have:=hlt k (.inr (.inr h));omega
  ·omega
 ·obtain ⟨g2,cap2,hov2,_,hc2⟩:=cells_of_owns ho hN2
  rw [hov] at hov2 ⊢
  injection hov2 with e1 _ e3
  cases e1
  refine ⟨htyp, .inr ⟨g,0,cap,by rw [hRL],?_⟩⟩
  exact (f9.cells (f89.cells (f78.cells (f67.cells hc2 id) (fun (e:g=B)=>by omega)) id) id)
 ·intro k hk
  rw [hov] at hk
  simp [Value.ownBlock] at hk
  subst hk
  rintro (h|h|h)
  ·have:=hH _ h;omega
  ·have:=h.1;omega
  ·omega
 ·exact hd.fr f9 (fun _ _=>id)
 ·intro k hk
  have h1:=hdA k hk
  rintro (h|h|h)
  ·have:=hlt k (.inr (.inl h));omega
  ·have:=hlt k (.inr (.inr h));omega
  ·omega
 ·intro k hk
  have:=big k hk
  omega
 ·rintro k (hk|hk|hk)
  ·have:=hmA k hk;omega
  ·rw [hov] at hk
   simp [Value.ownBlock] at hk
   omega
  ·have:=hdA k hk;omega
theorem hnone_any(bw:Nat)(w:World)(h:w.cell? ⟨bw,0,none⟩=some (.bool true)):Calls Tryz.prog 30 #[.pointer (some ⟨bw,0,none⟩)] w fun e w'=>e= .returned (.bool false)∧w=w':=by
 go_enter Tryz.func30,Tryz.ntmps30
 go_wp2_with fail
 go_ret
 exact ⟨rfl,rfl⟩
theorem hnone_hid(bw:Nat)(w:World)(h:w.cell? ⟨bw,0,none⟩=some (.bool true)):Hid (Calls Tryz.prog 30 #[.pointer (some ⟨bw,0,none⟩)] w fun e w'=>e= .returned (.bool false)∧w=w'):=hnone_any bw w h
theorem hmemory_any(bw mb:Nat)(w:World)(h:w.cell? ⟨bw,0,none⟩=some (.bool true))(h4:w.cell? ⟨bw,4,none⟩=some (.pointer (some ⟨mb,0,none⟩))):
  Calls Tryz.prog 10 #[.pointer (some ⟨bw,0,none⟩)] w fun e w'=>e= .returned (.pointer (some ⟨mb,0,none⟩))∧w=w':=by
 have HN:=hnone_hid bw w h
 clear h
 go_enter Tryz.func10,Tryz.ntmps10
 go_wp2_with (go_at_call 30;(with_reducible refine (HN.out).mono ?_);rintro e w1 ⟨rfl,rfl⟩)
 go_ret
 exact ⟨rfl,rfl⟩
theorem draw_none(bw c:Nat)(a:Option Addr)(w:World)(h6:w.cell? ⟨bw,6,none⟩=some (.slice a 0 c)):
  Calls Tryz.prog 99 #[.pointer (some ⟨bw,0,none⟩)] w fun e w'=>e= .returned (.int .u64 0)∧w=w':=by
 go_enter Tryz.func99,Tryz.ntmps99
 go_wp2_with fail
 go_ret
 exact ⟨rfl,rfl⟩
theorem draw_some(bw g off n c:Nat)(d:Int)(w:World)(h6:w.cell? ⟨bw,6,none⟩=some (.slice (some ⟨g,off,none⟩) n c))(hz:w.frozen? ⟨bw,6,none⟩=false)(hn:0<n)(hnc:n≤c)(hd:w.cell? ⟨g,off,none⟩=some (.int .u64 d)):
  Calls Tryz.prog 99 #[.pointer (some ⟨bw,0,none⟩)] w fun e w'=>e= .returned (.int .u64 d)∧w'=w.setCell ⟨bw,6,none⟩ (.slice (if c=1 then some ⟨g,off,none⟩ else some ⟨g,off+1,none⟩) (n-1) (c-1)):=by
 have c1:(1:Int)≤(n:Int):=by omega
 have c2:(0:Int)<(n:Int):=by omega
 have c3:(1:Int)≤(c:Int):=by omega
 have c4:(n:Int)≤(c:Int):=by omega
 have q:((n:Int)==0)=false:=by simp;omega
 clear hn hnc
 go_enter Tryz.func99,Tryz.ntmps99
 go_wp2_with fail
 all_goals go_ret
 all_goals exact ⟨rfl,rfl⟩
theorem U64sIn.tail{w:World}{g off c:Nat}{d:Int}{l:List Int}(h:l.length+1≤c)(hc:CellsAt w g off ((d::l).map (Value.int .u64))):U64sIn w (.slice (if c=1 then some ⟨g,off,none⟩ else some ⟨g,off+1,none⟩) (l.length+1-1) (c-1)) l:=by
 rw [Nat.add_sub_cancel]
 by_cases h0:l= []
 ·subst h0
  exact .inl ⟨rfl,_,_,rfl⟩
 ·have:0<l.length:=List.length_pos_iff.2 h0
  rw [if_neg (by omega)]
  refine .inr ⟨g,off+1,c-1,rfl,by omega,fun j u hj=> ?_⟩
  rw [show off+1+j=off+(j+1) by omega]
  exact hc (j+1) u (by simpa using hj)
def drawN(D:List Int):Int:=D.headD 0
def CopyW(w0 w:World)(b:Nat)(S:List Tab)(m:List Reg)(A:Nat→Prop)(mv ov dv:Value)(p:Int)(w':World):Prop:=
 ∃mb2 b2 A2 H2 T2 W2 w3,Fr No w W2∧Fr No W2 w3∧w.heap.size<W2.heap.size∧(∀k,T2 k→w.heap.size<k)∧KSt w0 b2 mb2 S m A2 H2 T2 w3∧(∀k,A2 k→A k∨W2.heap.size≤k)∧(∀k,H2 k→W2.heap.size≤k)∧(∀k,A2 k∨H2 k∨T2 k→k<w3.heap.size)
  ∧w'=w3.setCell ⟨w.heap.size,5,none⟩ (.pointer (some ⟨b2,0,none⟩))
  ∧(w3.cell? ⟨w.heap.size,0,none⟩=some (.bool true)∧w3.cell? ⟨w.heap.size,1,none⟩=some mv∧w3.cell? ⟨w.heap.size,2,none⟩=some (.int .i64 p)∧w3.cell? ⟨w.heap.size,3,none⟩=some ov∧w3.cell? ⟨w.heap.size,4,none⟩=some (.pointer (some ⟨mb2,0,none⟩))∧w3.cell? ⟨w.heap.size,5,none⟩=some (.pointer (some ⟨b,0,none⟩))∧w3.cell? ⟨w.heap.size,6,none⟩=some dv)∧∀j,w3.frozen? ⟨w.heap.size,j,none⟩=false
theorem WAt.copied{w0 wr w':World}{bw b mb p:Nat}{ds:List MapD}{RL:List Reg}{D:List Int}{S:List Tab}{m:List Reg}{A H T:Nat→Prop}{mv ov dv:Value}(h:WAt w0 bw b mb ds p RL D S m A H T mv ov dv wr)(hc:CopyW w0 wr b S m A mv ov dv p w'):
  ∃b2 mb2 A2 H2 T2,WAt w0 wr.heap.size b2 mb2 ds p RL D S m A2 H2 T2 mv ov dv w'∧Fr No wr w'∧∀k,H2 k∨T2 k→wr.heap.size≤k:=by
 obtain ⟨mb2,b2,A2,H2,T2,W2,w3,f2,f3,hsz,hT,hk,hA,hH,hlt,rfl,⟨e0,e1,e2,e3,e4,e5,e6⟩,hz⟩:=hc
 have hf3:Fr No wr w3:=f2.trans f3
 obtain ⟨W,hW⟩:∃W,W=w3.setCell ⟨wr.heap.size,5,none⟩ (.pointer (some ⟨b2,0,none⟩)):=⟨_,rfl⟩
 have hf:Fr (fun k=>k=wr.heap.size) w3 W:=by rw [hW];exact (Fr.refl (fun k=>k=wr.heap.size) w3).setCell (p:=⟨wr.heap.size,5,none⟩) (.inr rfl) _
 have cs:∀j v,j≠5→w3.cell? ⟨wr.heap.size,j,none⟩=some v→W.cell? ⟨wr.heap.size,j,none⟩=some v:=fun j v hj hcell=>by
  rw [hW,World.cell?_setCell_other _ _ _ _ (by intro e;simp only [Addr.mk.injEq] at e;omega)]
  exact hcell
 have hfr:Fr No wr W:=((hf3.any.trans (hf.mono fun k _ hk=>by show wr.heap.size≤k;omega)):Fr (From wr) wr W).ours
 have nA:∀k,A2 k→k≠wr.heap.size:=fun k hk'=>by
  rcases hA k hk' with h1|h1
  ·have:=h.lt k (.inl h1);omega
  ·omega
 have nH:∀k,H2 k→k≠wr.heap.size:=fun k hk'=>by have:=hH k hk';omega
 have nT:∀k,T2 k→k≠wr.heap.size:=fun k hk'=>by have:=hT k hk';omega
 have ap:∀v,(∀k,v.ownBlock=some k→k<wr.heap.size)→Apart (fun k=>H2 k∨T2 k∨k=wr.heap.size) v:=fun v hv k hk'=>by
  have:=hv k hk'
  rintro (h1|h1|h1)
  ·have:=hH k h1;omega
  ·have:=hT k h1;omega
  ·omega
 have apB:∀v,(∀k,v.ownBlock=some k→k<wr.heap.size)→Apart (fun k=>k=wr.heap.size) v:=fun v hv k hk' e=>by have:=hv k hk';omega
 have lm:∀k,mv.ownBlock=some k→k<wr.heap.size:=fun k hk'=>h.ltv k (.inl hk')
 have lo':∀k,ov.ownBlock=some k→k<wr.heap.size:=fun k hk'=>h.ltv k (.inr (.inl hk'))
 have ld:∀k,dv.ownBlock=some k→k<wr.heap.size:=fun k hk'=>h.ltv k (.inr (.inr hk'))
 rw [←hW]
 refine ⟨b2,mb2,A2,H2,T2,⟨cs 0 _ (by decide) e0,cs 1 _ (by decide) e1,cs 2 _ (by decide) e2,cs 3 _ (by decide) e3,cs 4 _ (by decide) e4,?_,cs 6 _ (by decide) e6,?_,⟨fun h1=>nA _ h1 rfl,fun h1=>nH _ h1 rfl,fun h1=>nT _ h1 rfl⟩,h.k.fr.size,
  (h.maps.fr hf3).frS hf (apB _ lm),ap _ lm,(h.own.frS hf3 (fun _ _=>id)).frS hf (apB _ lo'),ap _ lo',(h.draws.fr hf3 (fun _ _=>id)).fr hf (apB _ ld),ap _ ld,?_,fun k hk'=>Nat.lt_of_lt_of_le (hlt k hk') hf.size,fun k hk'=>Nat.lt_of_lt_of_le (h.ltv k hk') hfr.size⟩,hfr,fun k hk'=> ?_⟩
 ·rw [hW];exact World.cell?_setCell_same _ _ _ e5
 ·rw [hW,World.frozen?_setCell];exact hz 6
 ·exact hk.apart hf (fun k hk'=>by rw [hk'];exact h.k.fr.size) nA nH nT
 ·rcases hk' with h1|h1
  ·have:=hH k h1;omega
  ·have:=hT k h1;omega
theorem WAt.to{w0 wr w':World}{bw b mb p:Nat}{ds:List MapD}{RL:List Reg}{D:List Int}{S:List Tab}{m:List Reg}{A H T:Nat→Prop}{mv ov dv:Value}(h:WAt w0 bw b mb ds p RL D S m A H T mv ov dv wr)(hf:Fr No wr w'):WAt w0 bw b mb ds p RL D S m A H T mv ov dv w':=
 ⟨hf.cell h.c0 id,hf.cell h.c1 id,hf.cell h.c2 id,hf.cell h.c3 id,hf.cell h.c4 id,hf.cell h.c5 id,hf.cell h.c6 id,by rw [hf.frozen h.c6 id];exact h.open6,h.nb,h.lo,h.maps.fr hf,h.mapsA,h.own.frS hf (fun _ _=>id),h.ownA,h.draws.fr hf (fun _ _=>id),h.drawsA,h.k.to hf,
  fun k hk=>Nat.lt_of_lt_of_le (h.lt k hk) hf.size,fun k hk=>Nat.lt_of_lt_of_le (h.ltv k hk) hf.size⟩
theorem WAt.turn{w0 wr w':World}{bw b mb p:Nat}{ds:List MapD}{RL:List Reg}{D:List Int}{S S':List Tab}{m m':List Reg}{A H T:Nat→Prop}{mv ov dv:Value}(h:WAt w0 bw b mb ds p RL D S m A H T mv ov dv wr)(hf:Fr (Or2 H T) wr w')(hk:KSt w0 b mb S' m' A H T w'):WAt w0 bw b mb ds p RL D S' m' A H T mv ov dv w':=by
 have hb:¬Or2 H T bw:=fun hx=>hx.elim h.nb.2.1 h.nb.2.2
 have hx:∀v,Apart (fun k=>H k∨T k∨k=bw) v→Apart (Or2 H T) v:=fun v hv k hk hx=>hv k hk (hx.elim .inl (fun h=> .inr (.inl h)))
 exact ⟨hf.cell h.c0 hb,hf.cell h.c1 hb,hf.cell h.c2 hb,hf.cell h.c3 hb,hf.cell h.c4 hb,hf.cell h.c5 hb,hf.cell h.c6 hb,by rw [hf.frozen h.c6 hb];exact h.open6,h.nb,h.lo,h.maps.frS hf (hx _ h.mapsA),h.mapsA,h.own.frS hf (hx _ h.ownA),h.ownA,h.draws.fr hf (hx _ h.drawsA),h.drawsA,hk,
  fun k hk=>Nat.lt_of_lt_of_le (h.lt k hk) hf.size,fun k hk=>Nat.lt_of_lt_of_le (h.ltv k hk) hf.size⟩
end Go.Proofs.YtjcgmhlbkheadaaGreatDoor
namespace Go.Proofs.YtjcgmhlbkheadaaGreatDoor
open Go.RowKit
open Go.Maps (Keyed int_keyed)
def argsD:DataW Unit:= .map [(.int .i64 1, .lit (.int .i64 2)),(.int .i64 2, .lit (.int .i64 4)),(.int .i64 3, .lit (.int .i64 2)),(.int .i64 7, .lit (.int .i64 0))]
def argN(id:Int):Int:=if id=1 then 2 else if id=2 then 4 else if id=3 then 2 else 0
def argHas(id:Int):Bool:=decide (id=1∨id=2∨id=3∨id=7)
def argA(id:Int):Int:=if argHas id then argN id else-1
def ArgsAt(w:World):Prop:=∃bm n,w.cell? ⟨6,0,none⟩=some (.map (some bm))∧w.ownsMap Tryz.prog 3 (plainElem Tryz.prog 3) bm n argsD
theorem ArgsAt.fr{w w':World}(h:ArgsAt w)(hf:Fr No w w'):ArgsAt w':=by
 obtain ⟨bm,n,hc,es,clock,hb,hF,hn,hD⟩:=h
 refine ⟨bm,n,hf.cell hc id,es,clock,?_,hF,hn,hD⟩
 have hlt:bm<w.heap.size:=(Array.getElem?_eq_some_iff.1 hb).1
 rw [hf.block bm hlt id]
 exact hb
theorem args_at(id:Int):argsD.atKey (.int .i64 id) (.lit (.int .i64 0))= .lit (.int .i64 (argN id))∧Go.Maps.has argsD (.int .i64 id)=argHas id:=by
 unfold argN argHas argsD
 by_cases h1:id=1
 ·subst h1;exact ⟨rfl,rfl⟩
 ·by_cases h2:id=2
  ·subst h2;exact ⟨rfl,rfl⟩
  ·by_cases h3:id=3
   ·subst h3;exact ⟨rfl,rfl⟩
   ·by_cases h7:id=7
    ·subst h7;exact ⟨rfl,rfl⟩
    ·have s1:∀(x:Int) (y:DataW Unit),¬x=id→((Lit.int .i64 x,y).1.sameKey (.int .i64 id))=false:=fun x y hx=>by simp [Lit.sameKey,hx]
     have e1:=s1 1 (.lit (.int .i64 2)) (by omega)
     have e2:=s1 2 (.lit (.int .i64 4)) (by omega)
     have e3:=s1 3 (.lit (.int .i64 2)) (by omega)
     have e7:=s1 7 (.lit (.int .i64 0)) (by omega)
     refine ⟨?_,?_⟩
     ·simp only [DataW.atKey,List.find?_cons,e1,e2,e3,e7,List.find?_nil,h1,h2,h3,if_false]
     ·simp only [Go.Maps.has,List.any_cons,List.any_nil,e1,e2,e3,e7,h1,h2,h3,h7,or_self,decide_false,Bool.false_or]
theorem args_run{w:World}{bm n:Nat}(h:w.ownsMap Tryz.prog 3 (plainElem Tryz.prog 3) bm n argsD)(id:Int)(hw:(Lit.int .i64 id).wf=true):
  (Instr.lookup 195 (.map (some bm)) (.int .i64 id) true).run Tryz.prog w= .ok (.tuple #[.int .i64 (argN id), .bool (argHas id)]) w:=by
 obtain ⟨v,ps,hrun,hv⟩:=h.look_ok (int_keyed Tryz.underlying3) Tryz.underlying195 (z:= .int .i64 0) (by kernel_rfl) (plainElem_int Tryz.underlying3 (by decide)) (Go.Maps.keyOf_int_mk Tryz.underlying3 hw)
 obtain ⟨a,rfl,ha,_⟩:=plainElem_int_inv Tryz.underlying3 hv
 rw [(args_at id).1] at ha
 rw [(args_at id).2] at hrun
 have e:argN id=a:=by
  generalize argN id=q at ha
  have h1:=congrArg Prod.fst ha
  simp only [DataW.lit.injEq,Lit.int.injEq,true_and] at h1
  exact h1
 rw [←e] at hrun
 exact hrun
theorem args_any(id:Int)(w:World)(h:ArgsAt w)(hw:(Lit.int .i64 id).wf=true):Calls Tryz.prog 66 #[.int .i64 id] w fun e w'=>e= .returned (.int .i64 (argA id))∧w=w':=by
 obtain ⟨bm,n,hc,ho⟩:=h
 have hr:=args_run ho id hw
 clear ho hw
 unfold argA
 cases hb:argHas id with
 |true=>
  rw [hb] at hr
  simp only [if_true]
  clear hb
  go_enter Tryz.func66,Tryz.ntmps66
  go_wp2_with fail
  go_ret
  exact ⟨rfl,rfl⟩
 |false=>
  rw [hb] at hr
  simp only [Bool.false_eq_true,if_false]
  clear hb
  go_enter Tryz.func66,Tryz.ntmps66
  go_wp2_with fail
  go_ret
  exact ⟨rfl,rfl⟩
end Go.Proofs.YtjcgmhlbkheadaaGreatDoor
namespace Go.Proofs.YtjcgmhlbkheadaaGreatDoor
open Go.RowKit
def five(a0 a1 a2 a3 a4:Int):Value:= .agg #[.int .u64 a0, .int .u64 a1, .int .u64 a2, .int .u64 a3, .int .u64 a4]
theorem fr_box(w:World)(o:Obj):Fr No w (w.alloc o):=(Fr.refl _ _).alloc _
theorem call_not(bw:Nat)(id a0 a1 a2 a3 a4:Int)(w:World)(h0:w.cell? ⟨bw,0,none⟩=some (.bool true))(ha:ArgsAt w)(hw:(Lit.int .i64 id).wf=true)(hno:argHas id=false):
  Calls Tryz.prog 67 #[.pointer (some ⟨bw,0,none⟩), .int .i64 id,five a0 a1 a2 a3 a4] w fun e w'=>e= .returned (.tuple #[.int .u64 0, .int .i64 45])∧Fr No w w':=by
 have HN:Hid (∀W,Fr No w W→Calls Tryz.prog 30 #[.pointer (some ⟨bw,0,none⟩)] W fun e w'=>e= .returned (.bool false)∧W=w'):=fun W hW=>hnone_any bw W (hW.cell h0 (fun h=>h))
 have HA:Hid (∀W,Fr No w W→Calls Tryz.prog 66 #[.int .i64 id] W fun e w'=>e= .returned (.int .i64 (-1))∧W=w'):=fun W hW=>by
  have:=args_any id W (ha.fr hW) hw
  unfold argA at this
  rw [hno] at this
  exact this
 clear h0 ha hno hw
 unfold five
 go_enter Tryz.func67,Tryz.ntmps67
 go_wp2_with (first
  |(go_at_call 30;(with_reducible refine (HN.out _ (fr_box _ _)).mono ?_);rintro e w1 ⟨rfl,rfl⟩)
  |(go_at_call 66;(with_reducible refine (HA.out _ (fr_box _ _)).mono ?_);rintro e w2 ⟨rfl,rfl⟩))
 go_ret2
 exact ⟨rfl,fr_box _ _⟩
theorem call_draw(bw:Nat)(d a0 a1 a2 a3 a4:Int)(P:World→World→Prop)(w:World)(h0:w.cell? ⟨bw,0,none⟩=some (.bool true))(ha:ArgsAt w)
  (hd:∀W,Fr No w W→Calls Tryz.prog 99 #[.pointer (some ⟨bw,0,none⟩)] W fun e w'=>e= .returned (.int .u64 d)∧P W w'):
  Calls Tryz.prog 67 #[.pointer (some ⟨bw,0,none⟩), .int .i64 7,five a0 a1 a2 a3 a4] w fun e w'=>e= .returned (.tuple #[.int .u64 d, .int .i64 0])∧∃W,Fr No w W∧P W w':=by
 have HN:Hid (∀W,Fr No w W→Calls Tryz.prog 30 #[.pointer (some ⟨bw,0,none⟩)] W fun e w'=>e= .returned (.bool false)∧W=w'):=fun W hW=>hnone_any bw W (hW.cell h0 (fun h=>h))
 have HA:Hid (∀W,Fr No w W→Calls Tryz.prog 66 #[.int .i64 7] W fun e w'=>e= .returned (.int .i64 0)∧W=w'):=fun W hW=>args_any 7 W (ha.fr hW) (by decide)
 have HD:=Lib.hid hd
 clear h0 ha hd
 unfold five
 go_enter Tryz.func67,Tryz.ntmps67
 go_wp2_with (first
  |(go_at_call 30;(with_reducible refine (HN.out _ (fr_box _ _)).mono ?_);rintro e w1 ⟨rfl,rfl⟩)
  |(go_at_call 66;(with_reducible refine (HA.out _ (fr_box _ _)).mono ?_);rintro e w2 ⟨rfl,rfl⟩)
  |(go_at_call 99;(with_reducible refine (HD.out _ (fr_box _ _)).mono ?_);rintro e w3 ⟨rfl,hP⟩))
 go_ret2
 exact ⟨rfl,_,fr_box _ _,hP⟩
structure CallW(bw b mb:Nat)(nm:Nat)(key value:Int)(gm om cm:Nat)(i:Nat)(W:World):Prop where
 c0:W.cell? ⟨bw,0,none⟩=some (.bool true)
 c1:W.cell? ⟨bw,1,none⟩=some (.slice (some ⟨gm,om,none⟩) nm cm)
 c4:W.cell? ⟨bw,4,none⟩=some (.pointer (some ⟨mb,0,none⟩))
 c5:W.cell? ⟨bw,5,none⟩=some (.pointer (some ⟨b,0,none⟩))
 key:W.cell? ⟨gm,om+i*4+1,none⟩=some (.int .i64 key)
 value:W.cell? ⟨gm,om+i*4+2,none⟩=some (.int .i64 value)
theorem CallW.fr{bw b mb nm gm om cm i:Nat}{key value:Int}{W W':World}(h:CallW bw b mb nm key value gm om cm i W)(hf:Fr No W W'):CallW bw b mb nm key value gm om cm i W':=
 ⟨hf.cell h.c0 (fun h=>h),hf.cell h.c1 (fun h=>h),hf.cell h.c4 (fun h=>h),hf.cell h.c5 (fun h=>h),hf.cell h.key (fun h=>h),hf.cell h.value (fun h=>h)⟩
theorem call_nomap(bw b nm:Nat)(id a0 a1 a2 a3 a4 x:Int)(w:World)(h0:w.cell? ⟨bw,0,none⟩=some (.bool true))(h5:w.cell? ⟨bw,5,none⟩=some (.pointer (some ⟨b,0,none⟩)))(ha:ArgsAt w)(hw:(Lit.int .i64 id).wf=true)(hid:id=1∨id=2∨id=3)
  (hlen:∀W,Fr No w W→Calls Tryz.prog 73 #[.pointer (some ⟨b,0,none⟩)] W fun e w'=>e= .returned (.int .i64 nm)∧W=w') (hnm:nm≤1000) (hx:IntKind.u64.wrap (a0-9437184)=x) (hge:(nm:Int)≤x):
  Calls Tryz.prog 67 #[.pointer (some ⟨bw,0,none⟩), .int .i64 id,five a0 a1 a2 a3 a4] w fun e w'=>e= .returned (.tuple #[.int .u64 0, .int .i64 2])∧Fr No w w':=by
 have HN:Hid (∀W,Fr No w W→Calls Tryz.prog 30 #[.pointer (some ⟨bw,0,none⟩)] W fun e w'=>e= .returned (.bool false)∧W=w'):=fun W hW=>hnone_any bw W (hW.cell h0 (fun h=>h))
 have HA:Hid (∀W,Fr No w W→Calls Tryz.prog 66 #[.int .i64 id] W fun e w'=>e= .returned (.int .i64 (argA id))∧W=w'):=fun W hW=>args_any id W (ha.fr hW) hw
 have q0:decide (argA id<0)=false:=by rcases hid with rfl|rfl|rfl<;>decide
 have q1:(id==7)=false:=by rcases hid with rfl|rfl|rfl<;>decide
 obtain ⟨A,hA⟩:∃A,argA id=A:=⟨_,rfl⟩
 rw [hA] at HA q0
 have HL:=Lib.hid hlen
 have f1:IntKind.u64.wrap (nm:Int)=nm:=u64_nat nm (by omega)
 have q2:decide (x≥(nm:Int))=true:=by simpa using hge
 have m5:∀W,Fr No w W→W.cell? ⟨bw,5,none⟩=some (.pointer (some ⟨b,0,none⟩)):=fun W hW=>hW.cell h5 (fun h=>h)
 have HM5:=Lib.hid m5
 clear h0 h5 ha hw hid hlen hnm hge hA m5
 unfold five
 go_enter Tryz.func67,Tryz.ntmps67
 go_upto_region 7 with (first
  |(go_at_call 30;(with_reducible refine (HN.out _ (fr_box _ _)).mono ?_);rintro e w1 ⟨rfl,rfl⟩)
  |(go_at_call 66;(with_reducible refine (HA.out _ (fr_box _ _)).mono ?_);rintro e w2 ⟨rfl,rfl⟩))
 obtain ⟨W0,hW0⟩:∃W0,W0=w.alloc (.cells #[.int .u64 a0, .int .u64 a1, .int .u64 a2, .int .u64 a3, .int .u64 a4] 156):=⟨_,rfl⟩
 have HF0:Hid (Fr No w W0):=by rw [hW0];exact Lib.hid (fr_box _ _)
 have z0:W0.cell? ⟨w.heap.size,0,none⟩=some (.int .u64 a0):=by subst hW0;go_simp
 have z5:=HM5.out W0 HF0.out
 have H0:W0.drew.cell? ⟨w.heap.size,0,none⟩=some (.int .u64 a0)∧W0.drew.cell? ⟨bw,5,none⟩=some (.pointer (some ⟨b,0,none⟩)):=⟨z0,z5⟩
 rw [←hW0]
 clear hW0 z0 z5
 go_region_held3 (fun W=>W.cell? ⟨w.heap.size,0,none⟩=some (.int .u64 a0)∧W.cell? ⟨bw,5,none⟩=some (.pointer (some ⟨b,0,none⟩))) (first|assumption|go_keep)
  (first
   |(go_at_call 73;(with_reducible refine (HL.out _ (HF0.out.drew)).mono ?_);rintro e w3 ⟨rfl,rfl⟩))
 all_goals go_wp2_with fail
 all_goals go_ret2
 all_goals exact ⟨rfl,HF0.out.drew⟩
end Go.Proofs.YtjcgmhlbkheadaaGreatDoor
