/- memory: at. memory: none, number, Read, Text. memory: Read, Text, Write. memory: Read, Text, Write at any memory. -/
import Derived.Test.YtfmcmfiebehhiaaGreatDoorCore2
set_option linter.all false
set_option linter.unusedVariables false
set_option linter.unusedSimpArgs false
set_option maxHeartbeats 1000000
namespace Go.Proofs.YtfmcmfiebehhiaaGreatDoor
open Go.Proofs.Tryz
open Go.RowKit
def Searched(w:World)(b:Nat)(addr:Int)(L r:Nat):Prop:=
  Calls prog 112 #[.int .i64 L, .func (.func 113) #[] #[.pointer (some ⟨w.heap.size,0,none⟩), .pointer (some ⟨w.heap.size+1,0,none⟩)]] (atWorld w b addr)
   fun e w'=>e= .returned (.int .i64 (r:Int))∧∃q,w'=(atWorld w b addr).drewN q
theorem at_walk(w:World)(b bl L cap c g dcap len f k:Nat)(addr base:Int)(free:Bool)(hb:b<w.heap.size)(hs:Searched w b addr L (c+1))(hcl:c<L)(hn:L≤4611686018427387904)(h1:w.cell? ⟨b,1,none⟩=some (.slice (some ⟨bl,0,none⟩) L cap))(c0:w.cell? ⟨bl,c*3,none⟩=some (.int .u64 base))(c1:w.cell? ⟨bl,c*3+1,none⟩=some (.slice (some ⟨g,0,none⟩) len dcap))(c2:w.cell? ⟨bl,c*3+2,none⟩=some (.bool free))(e1:IntKind.u64.wrap (addr-base)=f)(e2:IntKind.u64.wrap (len:Int)=len)(e3:IntKind.u64.wrap ((len:Int)-f)=len-f)(e4:IntKind.u64.wrap (k:Int)=k)(hk:1≤k)(hfk:f+k≤len)(hcap:len≤dcap):
  Calls prog 75 #[.pointer (some ⟨b,0,none⟩), .int .u64 addr, .int .i64 k] w fun e w'=>
   e= .returned (.tuple #[.slice (some ⟨g,f,none⟩) k k, .bool free])∧Fr No w w':=by
 have HF:Hid _:=Fr.atWorld w b addr
 have g1:¬((len:Int)<f):=by omega
 have g2:¬((len:Int)-f<k):=by omega
 have g3:(c:Int)<L:=by omega
 have g4:¬dcap=f:=by omega
 go_enter func75,ntmps75
 go_wp2_with fail
 change Calls _ _ _ (atWorld w b addr) _
 refine (show Calls _ _ _ _ _ from hs).mono ?_
 rintro e w3 ⟨rfl,q,hw3⟩
 have k0:w3.cell? ⟨w.heap.size,0,none⟩=some (.pointer (some ⟨b,0,none⟩)):=by rw [hw3];exact atWorld_0 w b addr
 have k1:w3.cell? ⟨w.heap.size+1,0,none⟩=some (.int .u64 addr):=by rw [hw3];exact atWorld_1 w b addr
 have k2:w3.cell? ⟨b,1,none⟩=some (.slice (some ⟨bl,0,none⟩) L cap):=by rw [hw3];exact cell_atWorld _ _ _ _ _ h1
 have k3:w3.cell? ⟨bl,c*3,none⟩=some (.int .u64 base):=by rw [hw3];exact cell_atWorld _ _ _ _ _ c0
 have k4:w3.cell? ⟨bl,c*3+1,none⟩=some (.slice (some ⟨g,0,none⟩) len dcap):=by rw [hw3];exact cell_atWorld _ _ _ _ _ c1
 have k5:w3.cell? ⟨bl,c*3+2,none⟩=some (.bool free):=by rw [hw3];exact cell_atWorld _ _ _ _ _ c2
 have HW:Hid (Fr No w w3):=by rw [hw3];exact HF.out.drewN q
 have hsz:w.heap.size+1<w3.heap.size:=by rw [hw3];show _<(atWorld w b addr).heap.size;simp [atWorld]
 clear hw3 h1 c0 c1 c2 hs HF
 go_wp2_with fail
 have q1:(f:Int)≤len:=by omega
 have q2:(k:Int)≤(dcap:Int)-f:=by omega
 have q3:(k:Int)≤((dcap-f:Nat):Int):=by omega
 go_quiet (fail)
 go_wp2
 go_ret2
 exact ⟨rfl,(HW.out.alloc _).drewN _⟩
theorem at_miss(w:World)(b bl L cap c g dcap len f k:Nat)(addr base:Int)(free:Bool)(hb:b<w.heap.size)
  (hs:Searched w b addr L (c+1)) (hcl:c<L) (hn:L≤4611686018427387904)
  (h1:w.cell? ⟨b,1,none⟩=some (.slice (some ⟨bl,0,none⟩) L cap))
  (c0:w.cell? ⟨bl,c*3,none⟩=some (.int .u64 base)) (c1:w.cell? ⟨bl,c*3+1,none⟩=some (.slice (some ⟨g,0,none⟩) len dcap)) (c2:w.cell? ⟨bl,c*3+2,none⟩=some (.bool free))
  (e1:IntKind.u64.wrap (addr-base)=f) (e2:IntKind.u64.wrap (len:Int)=len) (e3:f≤len→IntKind.u64.wrap ((len:Int)-f)=len-f) (e4:IntKind.u64.wrap (k:Int)=k)
  (hfk:len<f∨(f≤len∧len<f+k)):
  Calls prog 75 #[.pointer (some ⟨b,0,none⟩), .int .u64 addr, .int .i64 k] w fun e w'=>
   e= .returned (.tuple #[.slice none 0 0, .bool false])∧Fr No w w':=by
 rcases hfk with hfk|⟨hf1,hfk⟩
 ·have HF:Hid _:=Fr.atWorld w b addr
  have g1:len<f:=hfk
  clear e3 e4
  have g3:(c:Int)<L:=by omega
  go_enter func75,ntmps75
  go_wp2_with fail
  change Calls _ _ _ (atWorld w b addr) _
  refine (show Calls _ _ _ _ _ from hs).mono ?_
  rintro e w3 ⟨rfl,q,hw3⟩
  have k0:w3.cell? ⟨w.heap.size,0,none⟩=some (.pointer (some ⟨b,0,none⟩)):=by rw [hw3];exact atWorld_0 w b addr
  have k1:w3.cell? ⟨w.heap.size+1,0,none⟩=some (.int .u64 addr):=by rw [hw3];exact atWorld_1 w b addr
  have k2:w3.cell? ⟨b,1,none⟩=some (.slice (some ⟨bl,0,none⟩) L cap):=by rw [hw3];exact cell_atWorld _ _ _ _ _ h1
  have k3:w3.cell? ⟨bl,c*3,none⟩=some (.int .u64 base):=by rw [hw3];exact cell_atWorld _ _ _ _ _ c0
  have k4:w3.cell? ⟨bl,c*3+1,none⟩=some (.slice (some ⟨g,0,none⟩) len dcap):=by rw [hw3];exact cell_atWorld _ _ _ _ _ c1
  have k5:w3.cell? ⟨bl,c*3+2,none⟩=some (.bool free):=by rw [hw3];exact cell_atWorld _ _ _ _ _ c2
  have HW:Hid (Fr No w w3):=by rw [hw3];exact HF.out.drewN q
  have hsz:w.heap.size+1<w3.heap.size:=by rw [hw3];show _<(atWorld w b addr).heap.size;simp [atWorld]
  clear hw3 h1 c0 c1 c2 hs HF
  go_wp2_with fail
  go_ret2
  exact ⟨rfl,HW.out.alloc _⟩
 ·have HF:Hid _:=Fr.atWorld w b addr
  have g1:¬(len<f):=by omega
  have g2:((len:Int)-f<k):=by omega
  have e3:=e3 (by omega)
  have g3:(c:Int)<L:=by omega
  go_enter func75,ntmps75
  go_wp2_with fail
  change Calls _ _ _ (atWorld w b addr) _
  refine (show Calls _ _ _ _ _ from hs).mono ?_
  rintro e w3 ⟨rfl,q,hw3⟩
  have k0:w3.cell? ⟨w.heap.size,0,none⟩=some (.pointer (some ⟨b,0,none⟩)):=by rw [hw3];exact atWorld_0 w b addr
  have k1:w3.cell? ⟨w.heap.size+1,0,none⟩=some (.int .u64 addr):=by rw [hw3];exact atWorld_1 w b addr
  have k2:w3.cell? ⟨b,1,none⟩=some (.slice (some ⟨bl,0,none⟩) L cap):=by rw [hw3];exact cell_atWorld _ _ _ _ _ h1
  have k3:w3.cell? ⟨bl,c*3,none⟩=some (.int .u64 base):=by rw [hw3];exact cell_atWorld _ _ _ _ _ c0
  have k4:w3.cell? ⟨bl,c*3+1,none⟩=some (.slice (some ⟨g,0,none⟩) len dcap):=by rw [hw3];exact cell_atWorld _ _ _ _ _ c1
  have k5:w3.cell? ⟨bl,c*3+2,none⟩=some (.bool free):=by rw [hw3];exact cell_atWorld _ _ _ _ _ c2
  have HW:Hid (Fr No w w3):=by rw [hw3];exact HF.out.drewN q
  have hsz:w.heap.size+1<w3.heap.size:=by rw [hw3];show _<(atWorld w b addr).heap.size;simp [atWorld]
  clear hw3 h1 c0 c1 c2 hs HF
  go_wp2_with fail
  go_ret2
  exact ⟨rfl,HW.out.alloc _⟩
def AtPost(l:List HReg)(addr n:Int)(e:Ending):Prop:=
 match spot (l.map (·.r)) addr n with
 |none=>e= .returned (.tuple #[.slice none 0 0, .bool false])
 |some i=>∃x,l[i]? =some x∧e= .returned (.tuple #[.slice (some ⟨x.g,(addr-x.r.base).toNat,none⟩) n.toNat n.toNat, .bool x.r.free])
theorem at_any{S w b v}{l:List HReg}(h:MemL w b v l S)(addr n)(ha:0≤addr)(h64:addr≤18446744073709551615)(h1:1≤n)(h63:n≤9223372036854775807):
  Calls prog 75 #[.pointer (some ⟨b,0,none⟩), .int .u64 addr, .int .i64 n] w fun e w'=>AtPost l addr n e∧Fr No w w':=by
 have hm:=h.wf.many
 rw [List.length_map] at hm
 have hsp:=spot_eq h.wf addr n h1
 have hcl:=cnt_le (l.map (·.r)) addr
 rw [List.length_map] at hcl
 rcases Nat.eq_zero_or_pos (cnt (l.map (·.r)) addr) with hc|hc
 ·rw [dif_neg (by omega)] at hsp
  refine (at_none0 h addr n hm hc).mono ?_
  rintro e w' ⟨rfl,hf⟩
  exact ⟨by unfold AtPost;rw [hsp],hf⟩
 ·obtain ⟨c,hc'⟩:∃c,cnt (l.map (·.r)) addr=c+1:=⟨_,(Nat.succ_pred_eq_of_pos hc).symm⟩
  rw [dif_pos hc] at hsp
  have hcL:c<l.length:=by omega
  have hx:(l.map (·.r))[cnt (l.map (·.r)) addr-1]'(by rw [List.length_map];omega)=l[c].r:=by simp [hc']
  rw [hx] at hsp
  have hbase:l[c].r.base≤addr:=by
   have:=(cnt_spec h.wf addr c (by rw [List.length_map];exact hcL)).2 (by omega)
   simpa using this
  have hok:=h.wf.ok l[c].r (List.mem_map_of_mem (List.getElem_mem hcL))
  have hlow:=hok.low
  have hsm:=hok.small
  have hcap:=(h.here l[c] (List.getElem_mem hcL)).cap
  obtain ⟨bl,cap,hv,hbl,c0,c1,c2⟩:=h.list.reg c hcL
  have hcell:=h.cell
  rw [hv] at hcell
  have hs:Searched w b addr l.length (c+1):=by
   have:=search_cnt h addr hm
   rw [hc'] at this
   exact this
  obtain ⟨k,rfl⟩:=Int.eq_ofNat_of_zero_le (show 0≤n by omega)
  obtain ⟨f,hf⟩:∃f:Nat,addr-l[c].r.base=f:=⟨(addr-l[c].r.base).toNat,by omega⟩
  have e1:IntKind.u64.wrap (addr-l[c].r.base)=f:=by rw [u64_sub _ _ hbase hlow h64,hf]
  have e2:IntKind.u64.wrap (l[c].r.data.length:Int)=l[c].r.data.length:=IntWalk.u64_in _ (by omega)
  have e3:f≤l[c].r.data.length→IntKind.u64.wrap ((l[c].r.data.length:Int)-f)=l[c].r.data.length-f:=fun hh=>u64_sub _ _ (by omega) (by omega) (by omega)
  have e4:IntKind.u64.wrap (k:Int)=k:=IntWalk.u64_in _ (by omega)
  by_cases hh:l[c].r.has addr k=true
  ·rw [if_pos hh] at hsp
   have hh':l[c].r.base≤addr∧addr+(k:Int)≤l[c].r.base+(l[c].r.data.length:Int):=(Reg.has_iff _ _ _).1 hh
   have hfl:f+k≤l[c].r.data.length:=by clear e1 e2 e3 e4;omega
   refine (at_walk w b bl l.length cap c l[c].g l[c].cap l[c].r.data.length f k addr l[c].r.base l[c].r.free h.lt hs hcL hm hcell c0 c1 c2 e1 e2 (e3 (by omega)) e4 (by omega) hfl hcap).mono ?_
   rintro e w' ⟨rfl,hfr⟩
   refine ⟨?_,hfr⟩
   unfold AtPost
   rw [hsp]
   refine ⟨l[c],by rw [hc'];simp [hcL],?_⟩
   rw [hf]
   rfl
  ·rw [if_neg hh] at hsp
   have hh':¬(l[c].r.base≤addr∧addr+(k:Int)≤l[c].r.base+(l[c].r.data.length:Int)):=fun h'=>hh ((Reg.has_iff _ _ _).2 h')
   have hfl:l[c].r.data.length<f∨(f≤l[c].r.data.length∧l[c].r.data.length<f+k):=by clear e1 e2 e3 e4;omega
   refine (at_miss w b bl l.length cap c l[c].g l[c].cap l[c].r.data.length f k addr l[c].r.base l[c].r.free h.lt hs hcL hm hcell c0 c1 c2 e1 e2 e3 e4 hfl).mono ?_
   rintro e w' ⟨rfl,hfr⟩
   exact ⟨by unfold AtPost;rw [hsp],hfr⟩
theorem none_made(b)(w:World)(h:w.cell? ⟨b,0,none⟩=some (.bool true)):
  Calls prog 74 #[.pointer (some ⟨b,0,none⟩)] w fun e w'=>e= .returned (.bool false)∧w=w':=by
 go_enter func74,ntmps74
 go_wp2
 go_ret
 exact ⟨rfl,rfl⟩
theorem number_bad(b addr n)(w:World)(h:w.cell? ⟨b,0,none⟩=some (.bool true))(h1:(n !=1)=true)(h2:(n !=2)=true)(h4:(n !=4)=true)(h8:(n !=8)=true):
  Calls prog 65 #[.pointer (some ⟨b,0,none⟩), .int .u64 addr, .int .i64 n] w fun e w'=>e= .returned (.tuple #[.slice none 0 0, .bool false, .int .i64 2])∧w=w':=by
 have HN:=Lib.hid (none_made b w h)
 go_enter func65,ntmps65
 go_wp2_with (go_at_call 74;refine HN.out.mono ?_;rintro e w' ⟨rfl,rfl⟩)
 go_ret3
 exact ⟨rfl,rfl⟩
theorem slice_nil_ne(w a n c):(binOp .eql 22 (.slice (some a) n c) (.slice none 0 0)).run prog w= .ok (.bool false) w:=Lib.run_eql_slice_nil w 22 5 (some a) n c 0 0 underlying22
theorem slice_nil_eq(w):(binOp .eql 22 (.slice none 0 0) (.slice none 0 0)).run prog w= .ok (.bool true) w:=Lib.run_eql_slice_nil w 22 5 none 0 0 0 0 underlying22
theorem number_at(b g f k free addr n)(w:World)(h:w.cell? ⟨b,0,none⟩=some (.bool true))(hn:n=1∨n=2∨n=4∨n=8)(hat:Calls prog 75 #[.pointer (some ⟨b,0,none⟩), .int .u64 addr, .int .i64 n] w fun e w'=>e= .returned (.tuple #[.slice (some ⟨g,f,none⟩) k k, .bool free])∧Fr No w w'):
  Calls prog 65 #[.pointer (some ⟨b,0,none⟩), .int .u64 addr, .int .i64 n] w fun e w'=>e= .returned (.tuple #[.slice (some ⟨g,f,none⟩) k k, .bool free, .int .i64 0])∧Fr No w w':=by
 have HN:=Lib.hid (none_made b w h)
 have HA:=Lib.hid hat
 clear hat
 have kn:=fun w=>slice_nil_ne w ⟨g,f,none⟩ k k
 rcases hn with rfl|rfl|rfl|rfl
 all_goals
  go_enter func65,ntmps65
  go_wp2_with (first|(go_at_call 74;refine HN.out.mono ?_;rintro e w' ⟨rfl,rfl⟩)|(go_at_call 75;refine HA.out.mono ?_;rintro e w' ⟨rfl,hf⟩))
  go_ret3
  exact ⟨rfl,hf⟩
theorem number_off(b addr n)(w:World)(h:w.cell? ⟨b,0,none⟩=some (.bool true))(hn:n=1∨n=2∨n=4∨n=8)(hat:Calls prog 75 #[.pointer (some ⟨b,0,none⟩), .int .u64 addr, .int .i64 n] w fun e w'=>e= .returned (.tuple #[.slice none 0 0, .bool false])∧Fr No w w'):
  Calls prog 65 #[.pointer (some ⟨b,0,none⟩), .int .u64 addr, .int .i64 n] w fun e w'=>e= .returned (.tuple #[.slice none 0 0, .bool false, .int .i64 70])∧Fr No w w':=by
 have HN:=Lib.hid (none_made b w h)
 have HA:=Lib.hid hat
 clear hat
 have kn:=slice_nil_eq
 rcases hn with rfl|rfl|rfl|rfl
 all_goals
  go_enter func65,ntmps65
  go_wp2_with (first|(go_at_call 74;refine HN.out.mono ?_;rintro e w' ⟨rfl,rfl⟩)|(go_at_call 75;refine HA.out.mono ?_;rintro e w' ⟨rfl,hf⟩))
  go_ret3
  exact ⟨rfl,hf⟩
def NumPost(l:List HReg)(addr n:Int)(e:Ending):Prop:=
 if sizeOk n then
  match spot (l.map (·.r)) addr n with
  |none=>e= .returned (.tuple #[.slice none 0 0, .bool false, .int .i64 70])
  |some i=>∃x,l[i]? =some x∧e= .returned (.tuple #[.slice (some ⟨x.g,(addr-x.r.base).toNat,none⟩) n.toNat n.toNat, .bool x.r.free, .int .i64 0])
 else e= .returned (.tuple #[.slice none 0 0, .bool false, .int .i64 2])
theorem sizeOk_iff(n):sizeOk n=true↔n=1∨n=2∨n=4∨n=8:=by
 simp [sizeOk,or_assoc]
theorem number_any{S w b v}{l:List HReg}(h:MemL w b v l S)(addr n:Int)(ha:0≤addr)(h64:addr≤18446744073709551615):
  Calls prog 65 #[.pointer (some ⟨b,0,none⟩), .int .u64 addr, .int .i64 n] w fun e w'=>NumPost l addr n e∧Fr No w w':=by
 by_cases hs:sizeOk n=true
 ·have hn:=(sizeOk_iff n).1 hs
  have hat:=at_any h addr n ha h64 (by omega) (by omega)
  cases hsp:spot (l.map (·.r)) addr n with
  |none=>
   refine (number_off b addr n w h.made hn (hat.mono ?_)).mono ?_
   ·rintro e w' ⟨hp,hf⟩
    unfold AtPost at hp
    rw [hsp] at hp
    exact ⟨hp,hf⟩
   ·rintro e w' ⟨rfl,hf⟩
    exact ⟨by unfold NumPost;rw [if_pos hs,hsp],hf⟩
  |some i=>
   have hi:i<l.length:=by simpa using spot_lt hsp
   refine (number_at b l[i].g (addr-l[i].r.base).toNat n.toNat l[i].r.free addr n w h.made hn (hat.mono ?_)).mono ?_
   ·rintro e w' ⟨hp,hf⟩
    unfold AtPost at hp
    rw [hsp] at hp
    obtain ⟨x,hx,rfl⟩:=hp
    rw [List.getElem?_eq_getElem hi] at hx
    obtain rfl:=Option.some.inj hx
    exact ⟨rfl,hf⟩
   ·rintro e w' ⟨rfl,hf⟩
    exact ⟨by unfold NumPost;rw [if_pos hs,hsp];exact ⟨l[i],List.getElem?_eq_getElem hi,rfl⟩,hf⟩
 ·have hn:¬(n=1∨n=2∨n=4∨n=8):=fun hh=>hs ((sizeOk_iff n).2 hh)
  refine (number_bad b addr n w h.made (by rw [bne_iff_ne];omega) (by rw [bne_iff_ne];omega) (by rw [bne_iff_ne];omega) (by rw [bne_iff_ne];omega)).mono ?_
  rintro e w' ⟨rfl,rfl⟩
  exact ⟨by unfold NumPost;rw [if_neg hs],Fr.refl _ _⟩
theorem str_nil(w):(convert 22 9 (.slice none 0 0)).run prog w= .ok (.string ⟨#[]⟩) w:=by
 rw [run_convert_bytes_string w 22 9 5 none 0 0 underlying22 underlying5 underlying9]
 rfl
theorem str_at{w g f}{bs:List UInt8}(h:CellsAt w g f (u8s bs))(cap):(convert 22 9 (.slice (some ⟨g,f,none⟩) bs.length cap)).run prog w= .ok (.string ⟨bs.toArray⟩) w:=
 run_str_of_bytes _ 22 9 5 underlying22 underlying5 underlying9 g f cap bs bs.length rfl h
theorem read_err(p addr n err free w)(hnum:Calls prog 65 #[p, .int .u64 addr, .int .i64 n] w fun e w'=>e= .returned (.tuple #[.slice none 0 0, .bool free, .int .i64 err])∧Fr No w w'):
  Calls prog 193 #[p, .int .u64 addr, .int .i64 n] w fun e w'=>e= .returned (.tuple #[.int .u64 0, .int .i64 err])∧Fr No w w':=by
 have HN:=Lib.hid hnum;clear hnum
 have k1:=str_nil
 go_enter func193,ntmps193
 go_wp2_with (first|(go_at_call 65;refine HN.out.mono ?_;rintro e w1 ⟨rfl,hf⟩)|(go_at_call 73;refine (num_any ⟨#[]⟩ _ (by decide)).mono ?_;rintro e w' ⟨rfl,rfl⟩))
 go_ret2
 exact ⟨rfl,hf⟩
theorem read_ok(p addr n g f free)(bs:List UInt8)(w:World)(h8:bs.length≤8)(hc:CellsAt w g f (u8s bs))(hg:g<w.heap.size)(hnum:Calls prog 65 #[p, .int .u64 addr, .int .i64 n] w fun e w'=>e= .returned (.tuple #[.slice (some ⟨g,f,none⟩) bs.length bs.length, .bool free, .int .i64 0])∧Fr No w w'):
  Calls prog 193 #[p, .int .u64 addr, .int .i64 n] w fun e w'=>e= .returned (.tuple #[.int .u64 (leNum bs), .int .i64 0])∧Fr No w w':=by
 have HN:=Lib.hid hnum;clear hnum
 have HC:=Lib.hid hc;clear hc
 have hn8:=fun W=>num_any ⟨bs.toArray⟩ W (by show bs.toArray.size≤_;unfold maxLen;simp;omega)
 have htk:bs.take 8=bs:=List.take_of_length_le h8
 simp only [htk] at hn8
 generalize hS:(⟨bs.toArray⟩:ByteArray)=S at hn8
 have hcv:∀W,Fr No w W→(convert 22 9 (.slice (some ⟨g,f,none⟩) bs.length bs.length)).run prog W= .ok (.string S) W:=fun W hf=>by
  rw [←hS];exact str_at (hf.cells HC.out id) _
 generalize leNum bs=V at hn8 ⊢
 generalize bs.length=k at*
 have HV:=Lib.hid hcv
 have H8:=Lib.hid hn8
 clear hcv hn8 hS htk
 go_enter func193,ntmps193
 go_wp2_with fail
 refine HN.out.mono ?_
 rintro e w1 ⟨rfl,hf⟩
 have k1:=HV.out w1 hf
 go_wp2_with (go_at_call 73;refine (H8.out _).mono ?_;rintro e w' ⟨rfl,rfl⟩)
 go_ret2
 exact ⟨rfl,hf⟩
theorem text_neg(b addr n)(w:World)(h:w.cell? ⟨b,0,none⟩=some (.bool true))(hn:n<0):
  Calls prog 42 #[.pointer (some ⟨b,0,none⟩), .int .u64 addr, .int .i64 n] w fun e w'=>e= .returned (.tuple #[.string ⟨#[]⟩, .int .i64 2])∧w=w':=by
 have HN:=Lib.hid (none_made b w h)
 go_enter func42,ntmps42
 go_wp2_with (go_at_call 74;refine HN.out.mono ?_;rintro e w' ⟨rfl,rfl⟩)
 go_ret2
 exact ⟨rfl,rfl⟩
theorem text_zero(b addr)(w:World)(h:w.cell? ⟨b,0,none⟩=some (.bool true)):
  Calls prog 42 #[.pointer (some ⟨b,0,none⟩), .int .u64 addr, .int .i64 0] w fun e w'=>e= .returned (.tuple #[.string ⟨#[]⟩, .int .i64 0])∧w=w':=by
 have HN:=Lib.hid (none_made b w h)
 go_enter func42,ntmps42
 go_wp2_with (go_at_call 74;refine HN.out.mono ?_;rintro e w' ⟨rfl,rfl⟩)
 go_ret2
 exact ⟨rfl,rfl⟩
theorem text_off(b addr n)(w:World)(h:w.cell? ⟨b,0,none⟩=some (.bool true))(hn:1≤n)(hat:Calls prog 75 #[.pointer (some ⟨b,0,none⟩), .int .u64 addr, .int .i64 n] w fun e w'=>e= .returned (.tuple #[.slice none 0 0, .bool false])∧Fr No w w'):
  Calls prog 42 #[.pointer (some ⟨b,0,none⟩), .int .u64 addr, .int .i64 n] w fun e w'=>e= .returned (.tuple #[.string ⟨#[]⟩, .int .i64 70])∧Fr No w w':=by
 have HN:=Lib.hid (none_made b w h)
 have HA:=Lib.hid hat
 clear hat
 have kn:=slice_nil_eq
 have h0:(n==0)=false:=by rw [beq_eq_false_iff_ne];omega
 have h0':¬n<0:=by omega
 go_enter func42,ntmps42
 go_wp2_with (first|(go_at_call 74;refine HN.out.mono ?_;rintro e w' ⟨rfl,rfl⟩)|(go_at_call 75;refine HA.out.mono ?_;rintro e w' ⟨rfl,hf⟩))
 go_ret2
 exact ⟨rfl,hf⟩
theorem text_at(b g f k free addr n)(bs:List UInt8)(w:World)(h:w.cell? ⟨b,0,none⟩=some (.bool true))(hn:1≤n)(hk:bs.length=k)(hc:CellsAt w g f (u8s bs))(hat:Calls prog 75 #[.pointer (some ⟨b,0,none⟩), .int .u64 addr, .int .i64 n] w fun e w'=>e= .returned (.tuple #[.slice (some ⟨g,f,none⟩) k k, .bool free])∧Fr No w w'):
  Calls prog 42 #[.pointer (some ⟨b,0,none⟩), .int .u64 addr, .int .i64 n] w fun e w'=>e= .returned (.tuple #[.string ⟨bs.toArray⟩, .int .i64 0])∧Fr No w w':=by
 have HN:=Lib.hid (none_made b w h)
 have HA:=Lib.hid hat
 clear hat
 have kn:=fun w=>slice_nil_ne w ⟨g,f,none⟩ k k
 have h0:(n==0)=false:=by rw [beq_eq_false_iff_ne];omega
 have h0':¬n<0:=by omega
 generalize hS:(⟨bs.toArray⟩:ByteArray)=S
 have hcv:∀W,Fr No w W→(convert 22 9 (.slice (some ⟨g,f,none⟩) k k)).run prog W= .ok (.string S) W:=fun W hf=>by
  rw [←hS,←hk];exact str_at (hf.cells hc id) _
 have HV:=Lib.hid hcv
 clear hcv hS hc hk
 go_enter func42,ntmps42
 go_wp2_with (go_at_call 74;refine HN.out.mono ?_;rintro e w' ⟨rfl,rfl⟩)
 refine HA.out.mono ?_
 rintro e w1 ⟨rfl,hf⟩
 have k1:=HV.out w1 hf
 go_wp2_with fail
 go_ret2
 exact ⟨rfl,hf⟩
theorem write_err(p addr n v err free w)(he:(err !=0)=true)(hnum:Calls prog 65 #[p, .int .u64 addr, .int .i64 n] w fun e w'=>e= .returned (.tuple #[.slice none 0 0, .bool free, .int .i64 err])∧Fr No w w'):
  Calls prog 33 #[p, .int .u64 addr, .int .i64 n, .int .u64 v] w fun e w'=>e= .returned (.int .i64 err)∧Fr No w w':=by
 have HN:=Lib.hid hnum;clear hnum
 go_enter func33,ntmps33
 go_wp2_with (go_at_call 65;refine HN.out.mono ?_;rintro e w1 ⟨rfl,hf⟩)
 go_ret
 exact ⟨rfl,hf⟩
theorem write_right(p addr n v g f k w)(hnum:Calls prog 65 #[p, .int .u64 addr, .int .i64 n] w fun e w'=>e= .returned (.tuple #[.slice (some ⟨g,f,none⟩) k k, .bool false, .int .i64 0])∧Fr No w w'):
  Calls prog 33 #[p, .int .u64 addr, .int .i64 n, .int .u64 v] w fun e w'=>e= .returned (.int .i64 71)∧Fr No w w':=by
 have HN:=Lib.hid hnum;clear hnum
 go_enter func33,ntmps33
 go_wp2_with (go_at_call 65;refine HN.out.mono ?_;rintro e w1 ⟨rfl,hf⟩)
 go_ret
 exact ⟨rfl,hf⟩
theorem copy_bytes(w:World)(ty g f k)(bs:List UInt8)(hk:bs.length=k)(hc:∀j,j<k→(w.cell? ⟨g,f+j,none⟩).isSome=true)(ho:∀j,j<k→w.frozen? ⟨g,f+j,none⟩=false):
  (Builtin.copy_ #[22,9] ty #[.slice (some ⟨g,f,none⟩) k k, .string ⟨bs.toArray⟩]).run prog w= .ok (goInt k) (w.setCells g f (u8s bs)):=
 run_copy_str w 22 9 ty 5 g f k bs k hk underlying22 (by
  obtain ⟨i0,hi,hz0,hz1,hz2⟩:=info_parts Tryz.info_u8
  rw [hi];simp [hz1]) hc ho
theorem write_ok(p:Value)(addr:Int)(v:Nat)(g f k:Nat)(w:World)(hv:v<2^64)(hk:k≤8)(hg:g<w.heap.size)(hc:∀j,j<k→(w.cell? ⟨g,f+j,none⟩).isSome=true)(ho:∀j,j<k→w.frozen? ⟨g,f+j,none⟩=false)(hnum:Calls prog 65 #[p, .int .u64 addr, .int .i64 k] w fun e w'=>e= .returned (.tuple #[.slice (some ⟨g,f,none⟩) k k, .bool true, .int .i64 0])∧Fr No w w'):
  Calls prog 33 #[p, .int .u64 addr, .int .i64 k, .int .u64 v] w fun e w'=>e= .returned (.int .i64 0)∧∃w1,Fr No w w1∧w'=w1.setCells g f (u8s (leBytes k v)):=by
 have HN:=Lib.hid hnum
 have HV:=Lib.hid hv
 have HC:Hid _:=hc
 have HO:Hid _:=ho
 clear hnum hv hc ho
 generalize hS:(⟨(leBytes k v).toArray⟩:ByteArray)=S
 have HS:=Lib.hid hS
 clear hS
 have HB:Hid (∀W,Calls prog 23 #[.int .u64 v, .int .i64 k] W fun e w'=>e= .returned (.string S)∧Fr No W w'):=fun W=>
  (bytes_any v k W HV.out hk).mono fun e w' ⟨he,hb⟩=>⟨by rw [he,HS.out],Fr.of_below hb⟩
 go_enter func33,ntmps33
 go_wp2_with (go_at_call 65;refine HN.out.mono ?_;rintro e w1 ⟨rfl,hf⟩)
 refine (HB.out _).mono ?_
 rintro e w2 ⟨rfl,hf2⟩
 have hcp:∀ty,(Builtin.copy_ #[22,9] ty #[.slice (some ⟨g,f,none⟩) k k, .string S]).run prog w2= .ok (goInt k) (w2.setCells g f (u8s (leBytes k v))):=fun ty=>by
  rw [←HS.out]
  have hfr:=hf.trans hf2
  refine copy_bytes w2 ty g f k _ (by simp) (fun j hj=> ?_) (fun j hj=> ?_)
  ·rw [World.cell?_of_block (w:=w) (hfr.block g hg id)];exact HC.out j hj
  ·rw [World.frozen?_of_block (w:=w) (hfr.block g hg id)];exact HO.out j hj
 go_wp2_with fail
 go_ret
 exact ⟨rfl,w2,hf.trans hf2,rfl⟩
theorem Reg.cut_length{r:Reg}{addr n:Int}(h:r.has addr n=true)(hn:0≤n):(r.cut addr n).length=n.toNat:=by
 have:=(Reg.has_iff _ _ _).1 h
 simp only [Reg.cut,List.length_take,List.length_drop]
 omega
theorem Reg.cut_at{w}{x:HReg}(h:x.here w)(addr n):CellsAt w x.g (addr-x.r.base).toNat (u8s (x.r.cut addr n)):=by
 intro j v hj
 simp only [u8s,Reg.cut,List.getElem?_map,Option.map_eq_some_iff] at hj
 obtain ⟨c,hc,rfl⟩:=hj
 rw [List.getElem?_take] at hc
 split at hc
 ·rw [List.getElem?_drop] at hc
  have:=h.bytes ((addr-x.r.base).toNat+j) (.int .u8 (c.toNat:Int)) (by simp [u8s,hc])
  rwa [Nat.zero_add] at this
 ·cases hc
theorem mtext_some{m addr n i}(h1:1≤n)(h:spot m addr n=some i){r:Reg}(hr:m[i]? =some r):mtext m addr n=(r.cut addr n,0):=by
 unfold mtext
 rw [if_neg (by omega),if_neg (by omega),h]
 simp [hr]
theorem mtext_none{m addr n}(h1:1≤n)(h:spot m addr n=none):mtext m addr n=([],70):=by
 unfold mtext
 rw [if_neg (by omega),if_neg (by omega),h]
theorem number_cases{S w b v}{l:List HReg}(h:MemL w b v l S)(addr n:Int)(ha:0≤addr)(h64:addr≤18446744073709551615):
  (sizeOk n=false∧Calls prog 65 #[.pointer (some ⟨b,0,none⟩), .int .u64 addr, .int .i64 n] w fun e w'=>e= .returned (.tuple #[.slice none 0 0, .bool false, .int .i64 2])∧Fr No w w')∨
  (sizeOk n=true∧spot (l.map (·.r)) addr n=none∧Calls prog 65 #[.pointer (some ⟨b,0,none⟩), .int .u64 addr, .int .i64 n] w fun e w'=>e= .returned (.tuple #[.slice none 0 0, .bool false, .int .i64 70])∧Fr No w w')∨
  (sizeOk n=true∧∃i x,spot (l.map (·.r)) addr n=some i∧l[i]? =some x∧x.r.has addr n=true∧
   Calls prog 65 #[.pointer (some ⟨b,0,none⟩), .int .u64 addr, .int .i64 n] w fun e w'=>e= .returned (.tuple #[.slice (some ⟨x.g,(addr-x.r.base).toNat,none⟩) n.toNat n.toNat, .bool x.r.free, .int .i64 0])∧Fr No w w'):=by
 have hnum:=number_any h addr n ha h64
 by_cases hs:sizeOk n=true
 ·cases hsp:spot (l.map (·.r)) addr n with
  |none=>
   refine .inr (.inl ⟨hs,rfl,hnum.mono ?_⟩)
   rintro e w' ⟨hp,hf⟩
   unfold NumPost at hp
   rw [if_pos hs,hsp] at hp
   exact ⟨hp,hf⟩
  |some i=>
   have hi:i<l.length:=by simpa using spot_lt hsp
   have hh:=spot_has hsp
   simp only [List.getElem_map] at hh
   refine .inr (.inr ⟨hs,i,l[i],rfl,List.getElem?_eq_getElem hi,hh,hnum.mono ?_⟩)
   rintro e w' ⟨hp,hf⟩
   unfold NumPost at hp
   rw [if_pos hs,hsp] at hp
   obtain ⟨x,hx,rfl⟩:=hp
   rw [List.getElem?_eq_getElem hi] at hx
   obtain rfl:=Option.some.inj hx
   exact ⟨rfl,hf⟩
 ·refine .inl ⟨by simpa using hs,hnum.mono ?_⟩
  rintro e w' ⟨hp,hf⟩
  unfold NumPost at hp
  rw [if_neg hs] at hp
  exact ⟨hp,hf⟩
theorem read_any{S}{w:World}{b m}(h:MemAt w b m S)(addr n)(ha:0≤addr)(h64:addr≤18446744073709551615):
  Calls prog 193 #[.pointer (some ⟨b,0,none⟩), .int .u64 addr, .int .i64 n] w fun e w'=>
   e= .returned (.tuple #[.int .u64 ((mread m addr n).1:Int), .int .i64 (mread m addr n).2])∧Fr No w w':=by
 obtain ⟨v,l,rfl,h⟩:=h
 rcases number_cases h addr n ha h64 with ⟨hs,hc⟩|⟨hs,hsp,hc⟩|⟨hs,i,x,hsp,hx,hh,hc⟩
 ·refine (read_err _ addr n 2 false w hc).mono ?_
  rintro e w' ⟨rfl,hf⟩
  exact ⟨by simp [mread,hs],hf⟩
 ·have hn:=(sizeOk_iff n).1 hs
  refine (read_err _ addr n 70 false w hc).mono ?_
  rintro e w' ⟨rfl,hf⟩
  exact ⟨by simp [mread,hs,mtext_none (by omega) hsp,leNum],hf⟩
 ·have hn:=(sizeOk_iff n).1 hs
  have hlen:=Reg.cut_length hh (by omega)
  have hxm:x∈l:=List.mem_of_getElem? hx
  have hhere:=h.here x hxm
  have hg:x.g<w.heap.size:=World.block_lt_of_cell? w ⟨x.g,0+0,none⟩ (hhere.bytes 0 _ (List.getElem?_eq_getElem (by simpa using (h.wf.ok x.r (List.mem_map_of_mem hxm)).some)))
  rw [←hlen] at hc
  refine (read_ok _ addr n x.g (addr-x.r.base).toNat x.r.free (x.r.cut addr n) w (by omega) (Reg.cut_at hhere addr n) hg hc).mono ?_
  rintro e w' ⟨rfl,hf⟩
  have:=mtext_some (m:=l.map (·.r)) (by omega) hsp (r:=x.r) (by simp [hx])
  exact ⟨by simp [mread,hs,this],hf⟩
theorem text_any{S w b m}(h:MemAt w b m S)(addr n:Int)(ha:0≤addr)(h64:addr≤18446744073709551615)(h63:n≤9223372036854775807):
  Calls prog 42 #[.pointer (some ⟨b,0,none⟩), .int .u64 addr, .int .i64 n] w fun e w'=>
   e= .returned (.tuple #[.string ⟨(mtext m addr n).1.toArray⟩, .int .i64 (mtext m addr n).2])∧Fr No w w':=by
 obtain ⟨v,l,rfl,h⟩:=h
 by_cases h1:n<0
 ·refine (text_neg b addr n w h.made h1).mono ?_
  rintro e w' ⟨rfl,rfl⟩
  exact ⟨by simp [mtext,h1],Fr.refl _ _⟩
 by_cases h0:n=0
 ·subst h0
  refine (text_zero b addr w h.made).mono ?_
  rintro e w' ⟨rfl,rfl⟩
  exact ⟨by simp [mtext],Fr.refl _ _⟩
 have hat:=at_any h addr n ha h64 (by omega) h63
 cases hsp:spot (l.map (·.r)) addr n with
 |none=>
  refine (text_off b addr n w h.made (by omega) (hat.mono ?_)).mono ?_
  ·rintro e w' ⟨hp,hf⟩
   unfold AtPost at hp
   rw [hsp] at hp
   exact ⟨hp,hf⟩
  ·rintro e w' ⟨rfl,hf⟩
   exact ⟨by rw [mtext_none (by omega) hsp],hf⟩
 |some i=>
  have hi:i<l.length:=by simpa using spot_lt hsp
  have hh:=spot_has hsp
  simp only [List.getElem_map] at hh
  have hhere:=h.here l[i] (List.getElem_mem hi)
  refine (text_at b l[i].g (addr-l[i].r.base).toNat n.toNat l[i].r.free addr n (l[i].r.cut addr n) w h.made (by omega) (Reg.cut_length hh (by omega)) (Reg.cut_at hhere addr n) (hat.mono ?_)).mono ?_
  ·rintro e w' ⟨hp,hf⟩
   unfold AtPost at hp
   rw [hsp] at hp
   obtain ⟨x,hx,rfl⟩:=hp
   rw [List.getElem?_eq_getElem hi] at hx
   obtain rfl:=Option.some.inj hx
   exact ⟨rfl,hf⟩
  ·rintro e w' ⟨rfl,hf⟩
   exact ⟨by rw [mtext_some (m:=l.map (·.r)) (by omega) hsp (r:=l[i].r) (by simp [hi])],hf⟩
theorem write_any{S}{w:World}{b m}(h:MemAt w b m S)(addr n:Int)(v:Nat)(ha:0≤addr)(h64:addr≤18446744073709551615)(hv:v<2^64):
  Calls prog 33 #[.pointer (some ⟨b,0,none⟩), .int .u64 addr, .int .i64 n, .int .u64 v] w fun e w'=>
   e= .returned (.int .i64 (mwrite m addr n v).2)∧Fr S w w'∧MemAt w' b (mwrite m addr n v).1 S:=by
 obtain ⟨val,l,rfl,h⟩:=h
 have keep:∀w',Fr No w w'→Fr S w w'∧MemAt w' b (l.map (·.r)) S:=fun w' hf=>⟨hf.mono (fun _ _ h=>h.elim),val,l,rfl,h.fr hf (fun _ _=>id)⟩
 rcases number_cases h addr n ha h64 with ⟨hs,hc⟩|⟨hs,hsp,hc⟩|⟨hs,i,x,hsp,hx,hh,hc⟩
 ·refine (write_err _ addr n v 2 false w (by decide) hc).mono ?_
  rintro e w' ⟨rfl,hf⟩
  have e1:mwrite (l.map (·.r)) addr n v=(l.map (·.r),2):=by simp [mwrite,hs]
  rw [e1]
  exact ⟨rfl,keep w' hf⟩
 ·have hn:=(sizeOk_iff n).1 hs
  refine (write_err _ addr n v 70 false w (by decide) hc).mono ?_
  rintro e w' ⟨rfl,hf⟩
  have e1:mwrite (l.map (·.r)) addr n v=(l.map (·.r),70):=by simp [mwrite,hs,hsp]
  rw [e1]
  exact ⟨rfl,keep w' hf⟩
 ·have hn:=(sizeOk_iff n).1 hs
  have hxm:x∈l:=List.mem_of_getElem? hx
  cases hfree:x.r.free with
  |false=>
   rw [hfree] at hc
   refine (write_right _ addr n v _ _ _ w hc).mono ?_
   rintro e w' ⟨rfl,hf⟩
   have e1:mwrite (l.map (·.r)) addr n v=(l.map (·.r),71):=by simp [mwrite,hs,hsp,hx,hfree]
   rw [e1]
   exact ⟨rfl,keep w' hf⟩
  |true=>
   rw [hfree] at hc
   obtain ⟨k,rfl⟩:=Int.eq_ofNat_of_zero_le (show 0≤n by omega)
   have hb:=(Reg.has_iff _ _ _).1 hh
   have hhere:=h.here x hxm
   have hfk:(addr-x.r.base).toNat+k≤x.r.data.length:=by omega
   have hg:x.g<w.heap.size:=World.block_lt_of_cell? w ⟨x.g,0+0,none⟩ (hhere.bytes 0 _ (List.getElem?_eq_getElem (by simpa using (h.wf.ok x.r (List.mem_map_of_mem hxm)).some)))
   refine (write_ok _ addr v x.g (addr-x.r.base).toNat k w hv (by omega) hg (fun j hj=> ?_) (fun j hj=> ?_) hc).mono ?_
   ·have:=hhere.bytes ((addr-x.r.base).toNat+j) _ (List.getElem?_eq_getElem (by simp;omega))
    rw [Nat.zero_add] at this
    rw [this];rfl
   ·have:=hhere.opened ((addr-x.r.base).toNat+j) (by omega)
    rwa [Nat.zero_add] at this
   ·rintro e w' ⟨rfl,w1,hf,rfl⟩
    have e1:mwrite (l.map (·.r)) addr k v=((l.map (·.r)).modify i (·.put addr (leBytes k v)),0):=by
     simp [mwrite,hs,hsp,hx,hfree,mput]
    rw [e1]
    have h1:=h.fr hf (fun _ _=>id)
    refine ⟨rfl,(hf.mono (fun _ _ h=>h.elim)).setCells (.inr (h.inS x hxm)) _ _,val,l.set i (x.lay (addr-x.r.base).toNat (leBytes k v)),?_,h1.put i x hx _ _ (by simpa using hfk)⟩
    obtain ⟨hi,hxe⟩:=List.getElem?_eq_some_iff.1 hx
    apply List.ext_getElem?
    intro j
    rw [List.map_set,List.getElem?_set,List.getElem?_modify]
    split
    ·rename_i hij;subst hij
     simp [hi,hxe,HReg.lay,Reg.put]
    ·simp
end Go.Proofs.YtfmcmfiebehhiaaGreatDoor

