/- memory: what its reading functions compute. memory: at. memory: none, number, Read, Text. memory: Read, Text, Write. -/
import Derived.Test.YtjcgmhlbkheadaaGreatDoorCore3
set_option linter.all false
set_option linter.unusedVariables false
set_option linter.unusedSimpArgs false
set_option maxHeartbeats 1000000
namespace Go.Proofs.YtjcgmhlbkheadaaGreatDoor
open Go.RowKit
theorem at1_any(bx ba b bl cap n i:Nat)(base addr:Int)(w:World)(hi:i<n)(hn:n≤4611686018427387904)
  (h1:w.cell? ⟨bx,0,none⟩=some (.pointer (some ⟨b,0,none⟩))) (h2:w.cell? ⟨b,1,none⟩=some (.slice (some ⟨bl,0,none⟩) n cap))
  (h3:w.cell? ⟨bl,i*3,none⟩=some (.int .u64 base)) (h4:w.cell? ⟨ba,0,none⟩=some (.int .u64 addr)):
  Calls Tryz.prog 62 #[.int .i64 i, .pointer (some ⟨bx,0,none⟩), .pointer (some ⟨ba,0,none⟩)] w fun e w'=>e= .returned (.bool (decide (addr<base)))∧∃q,w'=w.drewN q:=by
 have hin:(i:Int)<(n:Int):=by omega
 go_enter Tryz.func62,Tryz.ntmps62
 go_wp2
 go_quiet (fail)
 go_wp2
 go_ret
 exact ⟨rfl,_,rfl⟩
def SearchPost(p:Nat→Bool)(n:Nat)(w:World)(e:Ending)(w':World):Prop:=
 ∃r q:Nat,e= .returned (.int .i64 (r:Int))∧w'=w.drewN q∧r≤n∧(∀t,t<r→p t=false)∧(∀t,r≤t→t<n→p t=true)
theorem search_any(cb:Array Value)(n:Nat)(p:Nat→Bool)(w:World)(hn:n≤4611686018427387904)(hmono:∀s t,s≤t→t<n→p s=true→p t=true)
  (hf:∀q i,i<n→Calls Tryz.prog 62 (#[.int .i64 (i:Int)]++cb) (w.drewN q) fun e w'=>e= .returned (.bool (p i))∧∃q',w'=(w.drewN q).drewN q'):
  Calls Tryz.prog 61 #[.int .i64 n, .func (.func 62) #[] cb] w (SearchPost p n w):=by
 have HF:=Lib.hid hf
 have M:=Lib.hid hmono
 clear hf hmono
 go_enter Tryz.func61,Tryz.ntmps61
 go_wp2
 go_loopw [5,6] (fun s5 s6 wr=>∃(lo hi q:Nat),s5= .int .i64 lo∧s6= .int .i64 hi∧lo≤hi∧hi≤n∧wr=w.drewN q∧Hid ((∀t,t<lo→p t=false)∧(∀t,hi≤t→t<n→p t=true))) (fun s5 s6 _=>(intOf s6-intOf s5).toNat)
 case atStart=>exact ⟨0,n,0,rfl,rfl,Nat.zero_le _,Nat.le_refl _,rfl,(⟨fun t ht=>absurd ht (Nat.not_lt_zero _),fun t h1 h2=>by omega⟩:(∀t,t<0→p t=false)∧(∀t,n≤t→t<n→p t=true))⟩
 case round=>
  obtain ⟨lo,hi,q,rfl,rfl,hlh,hin,rfl,I⟩:=hrel
  by_cases hlt:lo<hi
  ·have hc:=HF.out q ((lo+hi)/2) (by omega)
   rw [show (((lo+hi)/2:Nat):Int)=((lo:Int)+(hi:Int))/2 by omega] at hc
   cases hp:p ((lo+hi)/2)<;>rw [hp] at hc
   ·have HP:=Lib.hid hp;clear hp
    have HC:=Lib.hid hc;clear hc
    go_wp2_with (go_at_call 62;refine HC.out.mono ?_;rintro e w' ⟨rfl,nq,rfl⟩)
    go_roundw
    case rel=>
     have I2:Hid ((∀t,t<(lo+hi)/2+1→p t=false)∧(∀t,hi≤t→t<n→p t=true)):=⟨fun t ht=>(by
      cases h:p t with
      |false=>rfl
      |true=>have:=M.out t ((lo+hi)/2) (by omega) (by omega) h;rw [HP.out] at this;cases this),I.out.2⟩
     exact ⟨(lo+hi)/2+1,hi,q+nq,by rw [show ((lo:Int)+(hi:Int))/2+1=(((lo+hi)/2+1:Nat):Int) by omega],rfl,by omega,hin,rfl,I2⟩
    case measure=>simp [intOf]<;>omega
   ·have HP:=Lib.hid hp;clear hp
    have HC:=Lib.hid hc;clear hc
    go_wp2_with (go_at_call 62;refine HC.out.mono ?_;rintro e w' ⟨rfl,nq,rfl⟩)
    go_roundw
    case rel=>
     have I2:Hid ((∀t,t<lo→p t=false)∧(∀t,(lo+hi)/2≤t→t<n→p t=true)):=⟨I.out.1,fun t ht htn=>M.out ((lo+hi)/2) t ht htn HP.out⟩
     exact ⟨lo,(lo+hi)/2,q+nq,rfl,by rw [show ((lo:Int)+(hi:Int))/2=(((lo+hi)/2:Nat):Int) by omega],by omega,by omega,rfl,I2⟩
    case measure=>simp [intOf]<;>omega
  ·obtain rfl:hi=lo:=by omega
   go_wp2
   go_ret
   exact ⟨hi,q,rfl,rfl,hin,I.out.1,I.out.2⟩
def atWorld(w:World)(b:Nat)(addr:Int):World:=(w.alloc (.cells #[.pointer (some ⟨b,0,none⟩)] 56)).alloc (.cells #[.int .u64 addr] 25)
theorem cell_atWorld(w:World)(b:Nat)(addr:Int)(a:Addr)(v:Value)(h:w.cell? a=some v):(atWorld w b addr).cell? a=some v:=by
 have:=World.block_lt_of_cell? w a h
 unfold atWorld
 rw [World.cell?_alloc_lt _ _ _ (by simp;omega),World.cell?_alloc_lt _ _ _ this,h]
theorem atWorld_0(w:World)(b:Nat)(addr:Int):(atWorld w b addr).cell? ⟨w.heap.size,0,none⟩=some (.pointer (some ⟨b,0,none⟩)):=by
 unfold atWorld
 rw [World.cell?_alloc_lt _ _ _ (by simp),World.cell?_alloc_new];rfl
theorem atWorld_1(w:World)(b:Nat)(addr:Int):(atWorld w b addr).cell? ⟨w.heap.size+1,0,none⟩=some (.int .u64 addr):=by
 unfold atWorld
 rw [show w.heap.size+1=(w.alloc (.cells #[.pointer (some ⟨b,0,none⟩)] 56)).heap.size by simp,World.cell?_alloc_new];rfl
theorem ListAt.len_le{w:World}{v:Value}{l:List HReg}(h:ListAt w v l):∃ad cap,v= .slice ad l.length cap:=by
 rcases h with ⟨rfl,rfl⟩|⟨bl,cap,rfl,_⟩
 ·exact ⟨none,0,rfl⟩
 ·exact ⟨_,cap,rfl⟩
theorem search_cnt{S:Nat→Prop}{w:World}{b:Nat}{v:Value}{l:List HReg}(h:MemL w b v l S)(addr:Int)(hn:l.length≤4611686018427387904):
  Calls Tryz.prog 61 #[.int .i64 l.length, .func (.func 62) #[] #[.pointer (some ⟨w.heap.size,0,none⟩), .pointer (some ⟨w.heap.size+1,0,none⟩)]] (atWorld w b addr)
   fun e w'=>e= .returned (.int .i64 (cnt (l.map (·.r)) addr:Nat))∧∃q,w'=(atWorld w b addr).drewN q:=by
 have hs:=cnt_spec h.wf addr
 simp only [List.length_map,List.getElem_map] at hs
 have hcl:=cnt_le (l.map (·.r)) addr
 rw [List.length_map] at hcl
 refine (search_any _ l.length (fun i=>decide (cnt (l.map (·.r)) addr≤i)) (atWorld w b addr) hn (fun s t hst _ hp=>by simp at*;omega) ?_).mono ?_
 ·intro q i hi
  obtain ⟨bl,cap,rfl,_,c0,_,_⟩:=h.list.reg i hi
  refine (at1_any w.heap.size (w.heap.size+1) b bl cap l.length i l[i].r.base addr ((atWorld w b addr).drewN q) hi hn (atWorld_0 w b addr) (cell_atWorld _ _ _ _ _ h.cell) (cell_atWorld _ _ _ _ _ c0) (atWorld_1 w b addr)).mono ?_
  rintro e w' ⟨rfl,q',rfl⟩
  refine ⟨?_,q',rfl⟩
  congr 2
  have:=hs i hi
  by_cases hh:l[i].r.base≤addr
  ·have:=this.1 hh
   simp;omega
  ·have:¬i<cnt (l.map (·.r)) addr:=fun hx=>hh (this.2 hx)
   simp;omega
 ·rintro e w' ⟨r,q,rfl,rfl,hr,h1,h2⟩
  refine ⟨?_,q,rfl⟩
  have e:r=cnt (l.map (·.r)) addr:=by
   rcases Nat.lt_trichotomy r (cnt (l.map (·.r)) addr) with hlt|he|hgt
   ·have:=h2 r (Nat.le_refl _) (by omega)
    simp at this;omega
   ·exact he
   ·have:=h1 _ hgt
    simp at this
  rw [e]
theorem Fr.atWorld(w:World)(b:Nat)(addr:Int):Fr No w (atWorld w b addr):=((Fr.refl No w).alloc _).alloc _
theorem u64_sub(x y:Int)(h:y≤x)(h0:0≤y)(h1:x≤18446744073709551615):IntKind.u64.wrap (x-y)=x-y:=IntWalk.u64_in _ (by omega)
theorem at_none0{S:Nat→Prop}{w:World}{b:Nat}{v:Value}{l:List HReg}(h:MemL w b v l S)(addr n:Int)(hn:l.length≤4611686018427387904)(hc:cnt (l.map (·.r)) addr=0):
  Calls Tryz.prog 32 #[.pointer (some ⟨b,0,none⟩), .int .u64 addr, .int .i64 n] w fun e w'=>e= .returned (.tuple #[.slice none 0 0, .bool false])∧Fr No w w':=by
 have hs:=search_cnt h addr hn
 rw [hc] at hs
 obtain ⟨ad,cap,hv⟩:=h.list.len_le
 have h1:=h.cell
 have hb:=h.lt
 rw [hv] at h1
 generalize hL:l.length=L at h1 hn hs
 have HS:=Lib.hid hs
 have HF:Hid _:=Fr.atWorld w b addr
 clear hc hs hv h hL
 go_enter Tryz.func32,Tryz.ntmps32
 go_wp2_with (go_at_call 61;change Calls _ _ _ (atWorld w b addr) _;refine HS.out.mono ?_;rintro e w' ⟨rfl,q,rfl⟩)
 go_ret2
 exact ⟨rfl,HF.out.drewN q⟩
def Searched(w:World)(b:Nat)(addr:Int)(L r:Nat):Prop:=
  Calls Tryz.prog 61 #[.int .i64 L, .func (.func 62) #[] #[.pointer (some ⟨w.heap.size,0,none⟩), .pointer (some ⟨w.heap.size+1,0,none⟩)]] (atWorld w b addr)
   fun e w'=>e= .returned (.int .i64 (r:Int))∧∃q,w'=(atWorld w b addr).drewN q
theorem at_walk(w:World)(b bl L cap c g dcap len f k:Nat)(addr base:Int)(free:Bool)(hb:b<w.heap.size)
  (hs:Searched w b addr L (c+1)) (hcl:c<L) (hn:L≤4611686018427387904)
  (h1:w.cell? ⟨b,1,none⟩=some (.slice (some ⟨bl,0,none⟩) L cap))
  (c0:w.cell? ⟨bl,c*3,none⟩=some (.int .u64 base)) (c1:w.cell? ⟨bl,c*3+1,none⟩=some (.slice (some ⟨g,0,none⟩) len dcap)) (c2:w.cell? ⟨bl,c*3+2,none⟩=some (.bool free))
  (e1:IntKind.u64.wrap (addr-base)=f) (e2:IntKind.u64.wrap (len:Int)=len) (e3:IntKind.u64.wrap ((len:Int)-f)=len-f) (e4:IntKind.u64.wrap (k:Int)=k)
  (hk:1≤k) (hfk:f+k≤len) (hcap:len≤dcap):
  Calls Tryz.prog 32 #[.pointer (some ⟨b,0,none⟩), .int .u64 addr, .int .i64 k] w fun e w'=>
   e= .returned (.tuple #[.slice (some ⟨g,f,none⟩) k k, .bool free])∧Fr No w w':=by
 have HF:Hid _:=Fr.atWorld w b addr
 have g1:¬((len:Int)<f):=by omega
 have g2:¬((len:Int)-f<k):=by omega
 have g3:(c:Int)<L:=by omega
 have g4:¬dcap=f:=by omega
 go_enter Tryz.func32,Tryz.ntmps32
 go_wp2_with fail
 change Calls _ _ _ (atWorld w b addr) _
 refine (show Calls _ _ _ _ _ from hs).mono ?_
 rintro e w3 ⟨rfl,q,hw3⟩
 have k0:w3.cell? ⟨w.heap.size,0,none⟩=some (.pointer (some ⟨b,0,none⟩)):=by rw [hw3];exact atWorld_0 w b addr
 have k1:w3.cell? ⟨w.heap.size+1,0,none⟩=some (.int .u64 addr):=by rw [hw3];exact atWorld_1 w b addr
 have k2:w3.cell? ⟨b,1,none⟩=some (.slice (some ⟨bl,0,none⟩) L cap):=by rw [hw3];exact cell_atWorld _ _ _ _ _ h1
 have k3:w3.cell? ⟨bl,c*3,none⟩=some (.int .u64 base):=by rw [hw3];exact cell_atWorld _ _ _ _ _ c0
 have k4:w3.cell? ⟨bl,c*3+1,none⟩=some (.slice (some ⟨g,0,none⟩) len dcap):=by rw [hw3];exact cell_atWorld _ _ _ _ _ c1
 have k5:w3.cell? ⟨bl,c*3+2,none⟩=some (.bool free):=by rw [hw3];exact cell_atWorld _ _ _ _ _ c2
 have HW:Hid (Fr No w w3):=by rw [hw3];exact HF.out.drewN q
 have hsz:w.heap.size+1<w3.heap.size:=by rw [hw3];show _<(atWorld w b addr).heap.size;simp [atWorld]
 clear hw3 h1 c0 c1 c2 hs HF
 go_wp2_with fail
 have q1:(f:Int)≤len:=by omega
 have q2:(k:Int)≤(dcap:Int)-f:=by omega
 have q3:(k:Int)≤((dcap-f:Nat):Int):=by omega
 go_quiet (fail)
 go_wp2
 go_ret2
 exact ⟨rfl,(HW.out.alloc _).drewN _⟩
theorem at_miss(w:World)(b bl L cap c g dcap len f k:Nat)(addr base:Int)(free:Bool)(hb:b<w.heap.size)
  (hs:Searched w b addr L (c+1)) (hcl:c<L) (hn:L≤4611686018427387904)
  (h1:w.cell? ⟨b,1,none⟩=some (.slice (some ⟨bl,0,none⟩) L cap))
  (c0:w.cell? ⟨bl,c*3,none⟩=some (.int .u64 base)) (c1:w.cell? ⟨bl,c*3+1,none⟩=some (.slice (some ⟨g,0,none⟩) len dcap)) (c2:w.cell? ⟨bl,c*3+2,none⟩=some (.bool free))
  (e1:IntKind.u64.wrap (addr-base)=f) (e2:IntKind.u64.wrap (len:Int)=len) (e3:f≤len→IntKind.u64.wrap ((len:Int)-f)=len-f) (e4:IntKind.u64.wrap (k:Int)=k)
  (hfk:len<f∨(f≤len∧len<f+k)):
  Calls Tryz.prog 32 #[.pointer (some ⟨b,0,none⟩), .int .u64 addr, .int .i64 k] w fun e w'=>
   e= .returned (.tuple #[.slice none 0 0, .bool false])∧Fr No w w':=by
 rcases hfk with hfk|⟨hf1,hfk⟩
 ·have HF:Hid _:=Fr.atWorld w b addr
  have g1:len<f:=hfk
  clear e3 e4
  have g3:(c:Int)<L:=by omega
  go_enter Tryz.func32,Tryz.ntmps32
  go_wp2_with fail
  change Calls _ _ _ (atWorld w b addr) _
  refine (show Calls _ _ _ _ _ from hs).mono ?_
  rintro e w3 ⟨rfl,q,hw3⟩
  have k0:w3.cell? ⟨w.heap.size,0,none⟩=some (.pointer (some ⟨b,0,none⟩)):=by rw [hw3];exact atWorld_0 w b addr
  have k1:w3.cell? ⟨w.heap.size+1,0,none⟩=some (.int .u64 addr):=by rw [hw3];exact atWorld_1 w b addr
  have k2:w3.cell? ⟨b,1,none⟩=some (.slice (some ⟨bl,0,none⟩) L cap):=by rw [hw3];exact cell_atWorld _ _ _ _ _ h1
  have k3:w3.cell? ⟨bl,c*3,none⟩=some (.int .u64 base):=by rw [hw3];exact cell_atWorld _ _ _ _ _ c0
  have k4:w3.cell? ⟨bl,c*3+1,none⟩=some (.slice (some ⟨g,0,none⟩) len dcap):=by rw [hw3];exact cell_atWorld _ _ _ _ _ c1
  have k5:w3.cell? ⟨bl,c*3+2,none⟩=some (.bool free):=by rw [hw3];exact cell_atWorld _ _ _ _ _ c2
  have HW:Hid (Fr No w w3):=by rw [hw3];exact HF.out.drewN q
  have hsz:w.heap.size+1<w3.heap.size:=by rw [hw3];show _<(atWorld w b addr).heap.size;simp [atWorld]
  clear hw3 h1 c0 c1 c2 hs HF
  go_wp2_with fail
  go_ret2
  exact ⟨rfl,HW.out.alloc _⟩
 ·have HF:Hid _:=Fr.atWorld w b addr
  have g1:¬(len<f):=by omega
  have g2:((len:Int)-f<k):=by omega
  have e3:=e3 (by omega)
  have g3:(c:Int)<L:=by omega
  go_enter Tryz.func32,Tryz.ntmps32
  go_wp2_with fail
  change Calls _ _ _ (atWorld w b addr) _
  refine (show Calls _ _ _ _ _ from hs).mono ?_
  rintro e w3 ⟨rfl,q,hw3⟩
  have k0:w3.cell? ⟨w.heap.size,0,none⟩=some (.pointer (some ⟨b,0,none⟩)):=by rw [hw3];exact atWorld_0 w b addr
  have k1:w3.cell? ⟨w.heap.size+1,0,none⟩=some (.int .u64 addr):=by rw [hw3];exact atWorld_1 w b addr
  have k2:w3.cell? ⟨b,1,none⟩=some (.slice (some ⟨bl,0,none⟩) L cap):=by rw [hw3];exact cell_atWorld _ _ _ _ _ h1
  have k3:w3.cell? ⟨bl,c*3,none⟩=some (.int .u64 base):=by rw [hw3];exact cell_atWorld _ _ _ _ _ c0
  have k4:w3.cell? ⟨bl,c*3+1,none⟩=some (.slice (some ⟨g,0,none⟩) len dcap):=by rw [hw3];exact cell_atWorld _ _ _ _ _ c1
  have k5:w3.cell? ⟨bl,c*3+2,none⟩=some (.bool free):=by rw [hw3];exact cell_atWorld _ _ _ _ _ c2
  have HW:Hid (Fr No w w3):=by rw [hw3];exact HF.out.drewN q
  have hsz:w.heap.size+1<w3.heap.size:=by rw [hw3];show _<(atWorld w b addr).heap.size;simp [atWorld]
  clear hw3 h1 c0 c1 c2 hs HF
  go_wp2_with fail
  go_ret2
  exact ⟨rfl,HW.out.alloc _⟩
def AtPost(l:List HReg)(addr n:Int)(e:Ending):Prop:=
 match spot (l.map (·.r)) addr n with
 |none=>e= .returned (.tuple #[.slice none 0 0, .bool false])
 |some i=>∃x,l[i]? =some x∧e= .returned (.tuple #[.slice (some ⟨x.g,(addr-x.r.base).toNat,none⟩) n.toNat n.toNat, .bool x.r.free])
theorem at_any{S:Nat→Prop}{w:World}{b:Nat}{v:Value}{l:List HReg}(h:MemL w b v l S)(addr n:Int)(ha:0≤addr)(h64:addr≤18446744073709551615)(h1:1≤n)(h63:n≤9223372036854775807):
  Calls Tryz.prog 32 #[.pointer (some ⟨b,0,none⟩), .int .u64 addr, .int .i64 n] w fun e w'=>AtPost l addr n e∧Fr No w w':=by
 have hm:=h.wf.many
 rw [List.length_map] at hm
 have hsp:=spot_eq h.wf addr n h1
 have hcl:=cnt_le (l.map (·.r)) addr
 rw [List.length_map] at hcl
 rcases Nat.eq_zero_or_pos (cnt (l.map (·.r)) addr) with hc|hc
 ·rw [dif_neg (by omega)] at hsp
  refine (at_none0 h addr n hm hc).mono ?_
  rintro e w' ⟨rfl,hf⟩
  exact ⟨by unfold AtPost;rw [hsp],hf⟩
 ·obtain ⟨c,hc'⟩:∃c,cnt (l.map (·.r)) addr=c+1:=⟨_,(Nat.succ_pred_eq_of_pos hc).symm⟩
  rw [dif_pos hc] at hsp
  have hcL:c<l.length:=by omega
  have hx:(l.map (·.r))[cnt (l.map (·.r)) addr-1]'(by rw [List.length_map];omega)=l[c].r:=by simp [hc']
  rw [hx] at hsp
  have hbase:l[c].r.base≤addr:=by
   have:=(cnt_spec h.wf addr c (by rw [List.length_map];exact hcL)).2 (by omega)
   simpa using this
  have hok:=h.wf.ok l[c].r (List.mem_map_of_mem (List.getElem_mem hcL))
  have hlow:=hok.low
  have hsm:=hok.small
  have hcap:=(h.here l[c] (List.getElem_mem hcL)).cap
  obtain ⟨bl,cap,hv,hbl,c0,c1,c2⟩:=h.list.reg c hcL
  have hcell:=h.cell
  rw [hv] at hcell
  have hs:Searched w b addr l.length (c+1):=by
   have:=search_cnt h addr hm
   rw [hc'] at this
   exact this
  obtain ⟨k,rfl⟩:=Int.eq_ofNat_of_zero_le (show 0≤n by omega)
  obtain ⟨f,hf⟩:∃f:Nat,addr-l[c].r.base=f:=⟨(addr-l[c].r.base).toNat,by omega⟩
  have e1:IntKind.u64.wrap (addr-l[c].r.base)=f:=by rw [u64_sub _ _ hbase hlow h64,hf]
  have e2:IntKind.u64.wrap (l[c].r.data.length:Int)=l[c].r.data.length:=IntWalk.u64_in _ (by omega)
  have e3:f≤l[c].r.data.length→IntKind.u64.wrap ((l[c].r.data.length:Int)-f)=l[c].r.data.length-f:=fun hh=>u64_sub _ _ (by omega) (by omega) (by omega)
  have e4:IntKind.u64.wrap (k:Int)=k:=IntWalk.u64_in _ (by omega)
  by_cases hh:l[c].r.has addr k=true
  ·rw [if_pos hh] at hsp
   have hh':l[c].r.base≤addr∧addr+(k:Int)≤l[c].r.base+(l[c].r.data.length:Int):=(Reg.has_iff _ _ _).1 hh
   have hfl:f+k≤l[c].r.data.length:=by clear e1 e2 e3 e4;omega
   refine (at_walk w b bl l.length cap c l[c].g l[c].cap l[c].r.data.length f k addr l[c].r.base l[c].r.free h.lt hs hcL hm hcell c0 c1 c2 e1 e2 (e3 (by omega)) e4 (by omega) hfl hcap).mono ?_
   rintro e w' ⟨rfl,hfr⟩
   refine ⟨?_,hfr⟩
   unfold AtPost
   rw [hsp]
   refine ⟨l[c],by rw [hc'];simp [hcL],?_⟩
   rw [hf]
   rfl
  ·rw [if_neg hh] at hsp
   have hh':¬(l[c].r.base≤addr∧addr+(k:Int)≤l[c].r.base+(l[c].r.data.length:Int)):=fun h'=>hh ((Reg.has_iff _ _ _).2 h')
   have hfl:l[c].r.data.length<f∨(f≤l[c].r.data.length∧l[c].r.data.length<f+k):=by clear e1 e2 e3 e4;omega
   refine (at_miss w b bl l.length cap c l[c].g l[c].cap l[c].r.data.length f k addr l[c].r.base l[c].r.free h.lt hs hcL hm hcell c0 c1 c2 e1 e2 e3 e4 hfl).mono ?_
   rintro e w' ⟨rfl,hfr⟩
   exact ⟨by unfold AtPost;rw [hsp],hfr⟩
theorem none_made(b:Nat)(w:World)(h:w.cell? ⟨b,0,none⟩=some (.bool true)):
  Calls Tryz.prog 31 #[.pointer (some ⟨b,0,none⟩)] w fun e w'=>e= .returned (.bool false)∧w=w':=by
 go_enter Tryz.func31,Tryz.ntmps31
 go_wp2
 go_ret
 exact ⟨rfl,rfl⟩
theorem number_bad(b:Nat)(addr n:Int)(w:World)(h:w.cell? ⟨b,0,none⟩=some (.bool true))(h1:(n !=1)=true)(h2:(n !=2)=true)(h4:(n !=4)=true)(h8:(n !=8)=true):
  Calls Tryz.prog 60 #[.pointer (some ⟨b,0,none⟩), .int .u64 addr, .int .i64 n] w fun e w'=>e= .returned (.tuple #[.slice none 0 0, .bool false, .int .i64 2])∧w=w':=by
 have HN:=Lib.hid (none_made b w h)
 go_enter Tryz.func60,Tryz.ntmps60
 go_wp2_with (go_at_call 31;refine HN.out.mono ?_;rintro e w' ⟨rfl,rfl⟩)
 go_ret3
 exact ⟨rfl,rfl⟩
theorem slice_nil_ne(w:World)(a:Addr)(n c:Nat):(binOp .eql 52 (.slice (some a) n c) (.slice none 0 0)).run Tryz.prog w= .ok (.bool false) w:=Lib.run_eql_slice_nil w 52 5 (some a) n c 0 0 Tryz.underlying52
theorem slice_nil_eq(w:World):(binOp .eql 52 (.slice none 0 0) (.slice none 0 0)).run Tryz.prog w= .ok (.bool true) w:=Lib.run_eql_slice_nil w 52 5 none 0 0 0 0 Tryz.underlying52
theorem number_at(b g f k:Nat)(free:Bool)(addr n:Int)(w:World)(h:w.cell? ⟨b,0,none⟩=some (.bool true))(hn:n=1∨n=2∨n=4∨n=8)
  (hat:Calls Tryz.prog 32 #[.pointer (some ⟨b,0,none⟩), .int .u64 addr, .int .i64 n] w fun e w'=>e= .returned (.tuple #[.slice (some ⟨g,f,none⟩) k k, .bool free])∧Fr No w w'):
  Calls Tryz.prog 60 #[.pointer (some ⟨b,0,none⟩), .int .u64 addr, .int .i64 n] w fun e w'=>e= .returned (.tuple #[.slice (some ⟨g,f,none⟩) k k, .bool free, .int .i64 0])∧Fr No w w':=by
 have HN:=Lib.hid (none_made b w h)
 have HA:=Lib.hid hat
 clear hat
 have kn:=fun w=>slice_nil_ne w ⟨g,f,none⟩ k k
 rcases hn with rfl|rfl|rfl|rfl
 all_goals
  go_enter Tryz.func60,Tryz.ntmps60
  go_wp2_with (first|(go_at_call 31;refine HN.out.mono ?_;rintro e w' ⟨rfl,rfl⟩)|(go_at_call 32;refine HA.out.mono ?_;rintro e w' ⟨rfl,hf⟩))
  go_ret3
  exact ⟨rfl,hf⟩
theorem number_off(b:Nat)(addr n:Int)(w:World)(h:w.cell? ⟨b,0,none⟩=some (.bool true))(hn:n=1∨n=2∨n=4∨n=8)
  (hat:Calls Tryz.prog 32 #[.pointer (some ⟨b,0,none⟩), .int .u64 addr, .int .i64 n] w fun e w'=>e= .returned (.tuple #[.slice none 0 0, .bool false])∧Fr No w w'):
  Calls Tryz.prog 60 #[.pointer (some ⟨b,0,none⟩), .int .u64 addr, .int .i64 n] w fun e w'=>e= .returned (.tuple #[.slice none 0 0, .bool false, .int .i64 70])∧Fr No w w':=by
 have HN:=Lib.hid (none_made b w h)
 have HA:=Lib.hid hat
 clear hat
 have kn:=slice_nil_eq
 rcases hn with rfl|rfl|rfl|rfl
 all_goals
  go_enter Tryz.func60,Tryz.ntmps60
  go_wp2_with (first|(go_at_call 31;refine HN.out.mono ?_;rintro e w' ⟨rfl,rfl⟩)|(go_at_call 32;refine HA.out.mono ?_;rintro e w' ⟨rfl,hf⟩))
  go_ret3
  exact ⟨rfl,hf⟩
def NumPost(l:List HReg)(addr n:Int)(e:Ending):Prop:=
 if sizeOk n then
  match spot (l.map (·.r)) addr n with
  |none=>e= .returned (.tuple #[.slice none 0 0, .bool false, .int .i64 70])
  |some i=>∃x,l[i]? =some x∧e= .returned (.tuple #[.slice (some ⟨x.g,(addr-x.r.base).toNat,none⟩) n.toNat n.toNat, .bool x.r.free, .int .i64 0])
 else e= .returned (.tuple #[.slice none 0 0, .bool false, .int .i64 2])
theorem sizeOk_iff(n:Int):sizeOk n=true↔n=1∨n=2∨n=4∨n=8:=by
 simp [sizeOk,or_assoc]
theorem number_any{S:Nat→Prop}{w:World}{b:Nat}{v:Value}{l:List HReg}(h:MemL w b v l S)(addr n:Int)(ha:0≤addr)(h64:addr≤18446744073709551615):
  Calls Tryz.prog 60 #[.pointer (some ⟨b,0,none⟩), .int .u64 addr, .int .i64 n] w fun e w'=>NumPost l addr n e∧Fr No w w':=by
 by_cases hs:sizeOk n=true
 ·have hn:=(sizeOk_iff n).1 hs
  have hat:=at_any h addr n ha h64 (by omega) (by omega)
  cases hsp:spot (l.map (·.r)) addr n with
  |none=>
   refine (number_off b addr n w h.made hn (hat.mono ?_)).mono ?_
   ·rintro e w' ⟨hp,hf⟩
    unfold AtPost at hp
    rw [hsp] at hp
    exact ⟨hp,hf⟩
   ·rintro e w' ⟨rfl,hf⟩
    exact ⟨by unfold NumPost;rw [if_pos hs,hsp],hf⟩
  |some i=>
   have hi:i<l.length:=by simpa using spot_lt hsp
   refine (number_at b l[i].g (addr-l[i].r.base).toNat n.toNat l[i].r.free addr n w h.made hn (hat.mono ?_)).mono ?_
   ·rintro e w' ⟨hp,hf⟩
    unfold AtPost at hp
    rw [hsp] at hp
    obtain ⟨x,hx,rfl⟩:=hp
    rw [List.getElem?_eq_getElem hi] at hx
    obtain rfl:=Option.some.inj hx
    exact ⟨rfl,hf⟩
   ·rintro e w' ⟨rfl,hf⟩
    exact ⟨by unfold NumPost;rw [if_pos hs,hsp];exact ⟨l[i],List.getElem?_eq_getElem hi,rfl⟩,hf⟩
 ·have hn:¬(n=1∨n=2∨n=4∨n=8):=fun hh=>hs ((sizeOk_iff n).2 hh)
  refine (number_bad b addr n w h.made (by rw [bne_iff_ne];omega) (by rw [bne_iff_ne];omega) (by rw [bne_iff_ne];omega) (by rw [bne_iff_ne];omega)).mono ?_
  rintro e w' ⟨rfl,rfl⟩
  exact ⟨by unfold NumPost;rw [if_neg hs],Fr.refl _ _⟩
theorem str_nil(w:World):(convert 52 9 (.slice none 0 0)).run Tryz.prog w= .ok (.string ⟨#[]⟩) w:=by
 rw [run_convert_bytes_string w 52 9 5 none 0 0 Tryz.underlying52 Tryz.underlying5 Tryz.underlying9]
 rfl
theorem str_at{w:World}{g f:Nat}{bs:List UInt8}(h:CellsAt w g f (u8s bs))(cap:Nat):(convert 52 9 (.slice (some ⟨g,f,none⟩) bs.length cap)).run Tryz.prog w= .ok (.string ⟨bs.toArray⟩) w:=
 run_str_of_bytes _ 52 9 5 Tryz.underlying52 Tryz.underlying5 Tryz.underlying9 g f cap bs bs.length rfl h
theorem read_err(p:Value)(addr n:Int)(err:Int)(free:Bool)(w:World)
  (hnum:Calls Tryz.prog 60 #[p, .int .u64 addr, .int .i64 n] w fun e w'=>e= .returned (.tuple #[.slice none 0 0, .bool free, .int .i64 err])∧Fr No w w'):
  Calls Tryz.prog 177 #[p, .int .u64 addr, .int .i64 n] w fun e w'=>e= .returned (.tuple #[.int .u64 0, .int .i64 err])∧Fr No w w':=by
 have HN:=Lib.hid hnum;clear hnum
 have k1:=str_nil
 go_enter Tryz.func177,Tryz.ntmps177
 go_wp2_with (first|(go_at_call 60;refine HN.out.mono ?_;rintro e w1 ⟨rfl,hf⟩)|(go_at_call 144;refine (num_any ⟨#[]⟩ _ (by decide)).mono ?_;rintro e w' ⟨rfl,rfl⟩))
 go_ret2
 exact ⟨rfl,hf⟩
theorem read_ok(p:Value)(addr n:Int)(g f:Nat)(free:Bool)(bs:List UInt8)(w:World)(h8:bs.length≤8)(hc:CellsAt w g f (u8s bs))(hg:g<w.heap.size)
  (hnum:Calls Tryz.prog 60 #[p, .int .u64 addr, .int .i64 n] w fun e w'=>e= .returned (.tuple #[.slice (some ⟨g,f,none⟩) bs.length bs.length, .bool free, .int .i64 0])∧Fr No w w'):
  Calls Tryz.prog 177 #[p, .int .u64 addr, .int .i64 n] w fun e w'=>e= .returned (.tuple #[.int .u64 (leNum bs), .int .i64 0])∧Fr No w w':=by
 have HN:=Lib.hid hnum;clear hnum
 have HC:=Lib.hid hc;clear hc
 have hn8:=fun W=>num_any ⟨bs.toArray⟩ W (by show bs.toArray.size≤_;unfold maxLen;simp;omega)
 have htk:bs.take 8=bs:=List.take_of_length_le h8
 simp only [htk] at hn8
 generalize hS:(⟨bs.toArray⟩:ByteArray)=S at hn8
 have hcv:∀W,Fr No w W→(convert 52 9 (.slice (some ⟨g,f,none⟩) bs.length bs.length)).run Tryz.prog W= .ok (.string S) W:=fun W hf=>by
  rw [←hS];exact str_at (hf.cells HC.out id) _
 generalize leNum bs=V at hn8 ⊢
 generalize bs.length=k at*
 have HV:=Lib.hid hcv
 have H8:=Lib.hid hn8
 clear hcv hn8 hS htk
 go_enter Tryz.func177,Tryz.ntmps177
 go_wp2_with fail
 refine HN.out.mono ?_
 rintro e w1 ⟨rfl,hf⟩
 have k1:=HV.out w1 hf
 go_wp2_with (go_at_call 144;refine (H8.out _).mono ?_;rintro e w' ⟨rfl,rfl⟩)
 go_ret2
 exact ⟨rfl,hf⟩
theorem text_neg(b:Nat)(addr n:Int)(w:World)(h:w.cell? ⟨b,0,none⟩=some (.bool true))(hn:n<0):
  Calls Tryz.prog 11 #[.pointer (some ⟨b,0,none⟩), .int .u64 addr, .int .i64 n] w fun e w'=>e= .returned (.tuple #[.string ⟨#[]⟩, .int .i64 2])∧w=w':=by
 have HN:=Lib.hid (none_made b w h)
 go_enter Tryz.func11,Tryz.ntmps11
 go_wp2_with (go_at_call 31;refine HN.out.mono ?_;rintro e w' ⟨rfl,rfl⟩)
 go_ret2
 exact ⟨rfl,rfl⟩
theorem text_zero(b:Nat)(addr:Int)(w:World)(h:w.cell? ⟨b,0,none⟩=some (.bool true)):
  Calls Tryz.prog 11 #[.pointer (some ⟨b,0,none⟩), .int .u64 addr, .int .i64 0] w fun e w'=>e= .returned (.tuple #[.string ⟨#[]⟩, .int .i64 0])∧w=w':=by
 have HN:=Lib.hid (none_made b w h)
 go_enter Tryz.func11,Tryz.ntmps11
 go_wp2_with (go_at_call 31;refine HN.out.mono ?_;rintro e w' ⟨rfl,rfl⟩)
 go_ret2
 exact ⟨rfl,rfl⟩
theorem text_off(b:Nat)(addr n:Int)(w:World)(h:w.cell? ⟨b,0,none⟩=some (.bool true))(hn:1≤n)
  (hat:Calls Tryz.prog 32 #[.pointer (some ⟨b,0,none⟩), .int .u64 addr, .int .i64 n] w fun e w'=>e= .returned (.tuple #[.slice none 0 0, .bool false])∧Fr No w w'):
  Calls Tryz.prog 11 #[.pointer (some ⟨b,0,none⟩), .int .u64 addr, .int .i64 n] w fun e w'=>e= .returned (.tuple #[.string ⟨#[]⟩, .int .i64 70])∧Fr No w w':=by
 have HN:=Lib.hid (none_made b w h)
 have HA:=Lib.hid hat
 clear hat
 have kn:=slice_nil_eq
 have h0:(n==0)=false:=by rw [beq_eq_false_iff_ne];omega
 have h0':¬n<0:=by omega
 go_enter Tryz.func11,Tryz.ntmps11
 go_wp2_with (first|(go_at_call 31;refine HN.out.mono ?_;rintro e w' ⟨rfl,rfl⟩)|(go_at_call 32;refine HA.out.mono ?_;rintro e w' ⟨rfl,hf⟩))
 go_ret2
 exact ⟨rfl,hf⟩
theorem text_at(b g f k:Nat)(free:Bool)(addr n:Int)(bs:List UInt8)(w:World)(h:w.cell? ⟨b,0,none⟩=some (.bool true))(hn:1≤n)(hk:bs.length=k)(hc:CellsAt w g f (u8s bs))
  (hat:Calls Tryz.prog 32 #[.pointer (some ⟨b,0,none⟩), .int .u64 addr, .int .i64 n] w fun e w'=>e= .returned (.tuple #[.slice (some ⟨g,f,none⟩) k k, .bool free])∧Fr No w w'):
  Calls Tryz.prog 11 #[.pointer (some ⟨b,0,none⟩), .int .u64 addr, .int .i64 n] w fun e w'=>e= .returned (.tuple #[.string ⟨bs.toArray⟩, .int .i64 0])∧Fr No w w':=by
 have HN:=Lib.hid (none_made b w h)
 have HA:=Lib.hid hat
 clear hat
 have kn:=fun w=>slice_nil_ne w ⟨g,f,none⟩ k k
 have h0:(n==0)=false:=by rw [beq_eq_false_iff_ne];omega
 have h0':¬n<0:=by omega
 generalize hS:(⟨bs.toArray⟩:ByteArray)=S
 have hcv:∀W,Fr No w W→(convert 52 9 (.slice (some ⟨g,f,none⟩) k k)).run Tryz.prog W= .ok (.string S) W:=fun W hf=>by
  rw [←hS,←hk];exact str_at (hf.cells hc id) _
 have HV:=Lib.hid hcv
 clear hcv hS hc hk
 go_enter Tryz.func11,Tryz.ntmps11
 go_wp2_with (go_at_call 31;refine HN.out.mono ?_;rintro e w' ⟨rfl,rfl⟩)
 refine HA.out.mono ?_
 rintro e w1 ⟨rfl,hf⟩
 have k1:=HV.out w1 hf
 go_wp2_with fail
 go_ret2
 exact ⟨rfl,hf⟩
theorem write_err(p:Value)(addr n v:Int)(err:Int)(free:Bool)(w:World)(he:(err !=0)=true)
  (hnum:Calls Tryz.prog 60 #[p, .int .u64 addr, .int .i64 n] w fun e w'=>e= .returned (.tuple #[.slice none 0 0, .bool free, .int .i64 err])∧Fr No w w'):
  Calls Tryz.prog 29 #[p, .int .u64 addr, .int .i64 n, .int .u64 v] w fun e w'=>e= .returned (.int .i64 err)∧Fr No w w':=by
 have HN:=Lib.hid hnum;clear hnum
 go_enter Tryz.func29,Tryz.ntmps29
 go_wp2_with (go_at_call 60;refine HN.out.mono ?_;rintro e w1 ⟨rfl,hf⟩)
 go_ret
 exact ⟨rfl,hf⟩
theorem write_right(p:Value)(addr n v:Int)(g f k:Nat)(w:World)
  (hnum:Calls Tryz.prog 60 #[p, .int .u64 addr, .int .i64 n] w fun e w'=>e= .returned (.tuple #[.slice (some ⟨g,f,none⟩) k k, .bool false, .int .i64 0])∧Fr No w w'):
  Calls Tryz.prog 29 #[p, .int .u64 addr, .int .i64 n, .int .u64 v] w fun e w'=>e= .returned (.int .i64 71)∧Fr No w w':=by
 have HN:=Lib.hid hnum;clear hnum
 go_enter Tryz.func29,Tryz.ntmps29
 go_wp2_with (go_at_call 60;refine HN.out.mono ?_;rintro e w1 ⟨rfl,hf⟩)
 go_ret
 exact ⟨rfl,hf⟩
theorem copy_bytes(w:World)(ty:TypeId)(g f k:Nat)(bs:List UInt8)(hk:bs.length=k)(hc:∀j,j<k→(w.cell? ⟨g,f+j,none⟩).isSome=true)(ho:∀j,j<k→w.frozen? ⟨g,f+j,none⟩=false):
  (Builtin.copy_ #[52,9] ty #[.slice (some ⟨g,f,none⟩) k k, .string ⟨bs.toArray⟩]).run Tryz.prog w= .ok (goInt k) (w.setCells g f (u8s bs)):=
 run_copy_str w 52 9 ty 5 g f k bs k hk Tryz.underlying52 (by
  obtain ⟨i0,hi,hz0,hz1,hz2⟩:=info_parts Tryz.info_u8
  rw [hi];simp [hz1]) hc ho
theorem write_ok(p:Value)(addr:Int)(v:Nat)(g f k:Nat)(w:World)(hv:v<2^64)(hk:k≤8)(hg:g<w.heap.size)(hc:∀j,j<k→(w.cell? ⟨g,f+j,none⟩).isSome=true)(ho:∀j,j<k→w.frozen? ⟨g,f+j,none⟩=false)
  (hnum:Calls Tryz.prog 60 #[p, .int .u64 addr, .int .i64 k] w fun e w'=>e= .returned (.tuple #[.slice (some ⟨g,f,none⟩) k k, .bool true, .int .i64 0])∧Fr No w w'):
  Calls Tryz.prog 29 #[p, .int .u64 addr, .int .i64 k, .int .u64 v] w fun e w'=>e= .returned (.int .i64 0)∧∃w1,Fr No w w1∧w'=w1.setCells g f (u8s (leBytes k v)):=by
 have HN:=Lib.hid hnum
 have HV:=Lib.hid hv
 have HC:Hid _:=hc
 have HO:Hid _:=ho
 clear hnum hv hc ho
 generalize hS:(⟨(leBytes k v).toArray⟩:ByteArray)=S
 have HS:=Lib.hid hS
 clear hS
 have HB:Hid (∀W,Calls Tryz.prog 17 #[.int .u64 v, .int .i64 k] W fun e w'=>e= .returned (.string S)∧Fr No W w'):=fun W=>
  (bytes_any v k W HV.out hk).mono fun e w' ⟨he,hb⟩=>⟨by rw [he,HS.out],Fr.of_below hb⟩
 go_enter Tryz.func29,Tryz.ntmps29
 go_wp2_with (go_at_call 60;refine HN.out.mono ?_;rintro e w1 ⟨rfl,hf⟩)
 refine (HB.out _).mono ?_
 rintro e w2 ⟨rfl,hf2⟩
 have hcp:∀ty,(Builtin.copy_ #[52,9] ty #[.slice (some ⟨g,f,none⟩) k k, .string S]).run Tryz.prog w2= .ok (goInt k) (w2.setCells g f (u8s (leBytes k v))):=fun ty=>by
  rw [←HS.out]
  have hfr:=hf.trans hf2
  refine copy_bytes w2 ty g f k _ (by simp) (fun j hj=> ?_) (fun j hj=> ?_)
  ·rw [World.cell?_of_block (w:=w) (hfr.block g hg id)];exact HC.out j hj
  ·rw [World.frozen?_of_block (w:=w) (hfr.block g hg id)];exact HO.out j hj
 go_wp2_with fail
 go_ret
 exact ⟨rfl,w2,hf.trans hf2,rfl⟩
end Go.Proofs.YtjcgmhlbkheadaaGreatDoor
