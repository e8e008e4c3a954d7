/- maps: hash's lay and key; has; value. maps: Lookup, Update, Delete: the walks. append onto a row of the call's own, of whatever source (nil, or none of its elements, too): what it comes to, in a .. -/
import Derived.Test.YtfmcmfiebehhiaaGreatDoorCore4
import Derived.Deep.RegionHeld3
import Derived.Shelf.Abstract
import Derived.Test.YtfmcmfiebehhiaaGreatDoorCore2
import Derived.Deep.AppendLies
import Derived.Laws.OwnMore
import Derived.Laws.AppendOwnNone
import Derived.RegionTactic
import Derived.Test.YtfmcmfiebehhiaaGreatDoorCore3
import Derived.Test.YtfmcmfiebehhiaaGreatDoorCoreS
set_option linter.all false
set_option linter.unusedVariables false
set_option linter.unusedSimpArgs false
set_option maxHeartbeats 1000000
namespace Go.Proofs.YtfmcmfiebehhiaaGreatDoor
open Go.Proofs.Tryz
open Go.RowKit
theorem quiet_eq{P f args}{w:World}{n v}(h:Calls P f args (w.drewN n) fun e w'=>e= .returned v∧w.drewN n=w'):Calls P f args (w.drewN n) fun e w''=>e= .returned v∧∃m,w''=w.drewN m:=
 h.mono fun _ _ ⟨he,hm⟩=>⟨he,n,hm.symm⟩
theorem hlay_has(v:Value)(K:ByteArray)(p:Nat)(w:World)(hi:Calls prog 159 #[v, .string K] w fun e w'=>e= .returned (.int .i64 p)∧w=w'):
  Calls prog 186 #[v, .string K] w fun e w'=>e= .returned (.tuple #[.int .i64 p, .int .i64 (-7)])∧w=w':=by
 have HI:=Lib.hid hi
 clear hi
 go_enter func186,ntmps186
 go_wp2_with (go_at_call 159;(with_reducible refine (HI.out).mono ?_);rintro e w' ⟨rfl,rfl⟩)
 go_ret2
 exact ⟨rfl,rfl⟩
theorem hlay_full(v K w)(hi:Calls prog 159 #[v, .string K] w fun e w'=>e= .returned (.int .i64 (-1))∧w=w')(he:Calls prog 159 #[v, .string ⟨#[]⟩] w fun e w'=>e= .returned (.int .i64 (-1))∧w=w'):
  Calls prog 186 #[v, .string K] w fun e w'=>e= .returned (.tuple #[.int .i64 (-1), .int .i64 (-7)])∧w=w':=by
 have HI:=Lib.hid hi
 have HE:=Lib.hid he
 clear hi he
 go_enter func186,ntmps186
 go_wp2_with fail
 refine (HI.out).mono ?_
 rintro e w' ⟨rfl,rfl⟩
 go_wp2_with fail
 refine (HE.out).mono ?_
 rintro e w' ⟨rfl,rfl⟩
 go_wp2_with fail
 go_ret2
 exact ⟨rfl,rfl⟩
theorem hlay_new(g n cap p K old)(w:World)(hp:p<n)(hn:n≤1000000)(hold:w.cell? ⟨g,p,none⟩=some old)(hfree:w.frozen? ⟨g,p,none⟩=false)(hi:Calls prog 159 #[.slice (some ⟨g,0,none⟩) n cap, .string K] w fun e w'=>e= .returned (.int .i64 (-1))∧w=w')(he:Calls prog 159 #[.slice (some ⟨g,0,none⟩) n cap, .string ⟨#[]⟩] w fun e w'=>e= .returned (.int .i64 p)∧w=w'):
  Calls prog 186 #[.slice (some ⟨g,0,none⟩) n cap, .string K] w fun e w'=>e= .returned (.tuple #[.int .i64 p, .int .i64 (-7)])∧w'=w.setCell ⟨g,p,none⟩ (.string K):=by
 have HI:=Lib.hid hi
 have HE:=Lib.hid he
 clear hi he
 go_enter func186,ntmps186
 go_wp2_with fail
 refine (HI.out).mono ?_
 rintro e w' ⟨rfl,rfl⟩
 go_wp2_with fail
 refine (HE.out).mono ?_
 rintro e w' ⟨rfl,rfl⟩
 go_wp2_with fail
 go_ret2
 exact ⟨rfl,rfl⟩
def LayPost(t:Tab)(g:Nat)(key:List UInt8)(w:World)(e:Ending)(w':World):Prop:=
 match t.find key with
 |some p=>e= .returned (.tuple #[.int .i64 p, .int .i64 (-7)])∧w=w'
 |none=>match t.find [] with
  |some p=>e= .returned (.tuple #[.int .i64 p, .int .i64 (-7)])∧w'=w.setCell ⟨g,p,none⟩ (.string ⟨key.toArray⟩)
  |none=>e= .returned (.tuple #[.int .i64 (-1), .int .i64 (-7)])∧w=w'
theorem hlay_any{w}{x:HTab}(hh:x.here w)(h16:x.t.ks.length≤1000000)(key:List UInt8):
  Calls prog 186 #[.slice (some ⟨x.h,0,none⟩) x.t.ks.length x.cap, .string ⟨key.toArray⟩] w (LayPost x.t x.h key w):=by
 have h1:=hfind_any hh h16 key
 have h2:=hfind_any hh h16 []
 unfold LayPost
 cases hk:x.t.find key with
 |some p=>
  rw [hk] at h1
  exact hlay_has _ _ p w h1
 |none=>
  rw [hk] at h1
  cases he:x.t.find [] with
  |none=>
   rw [he] at h2
   exact hlay_full _ _ w h1 h2
  |some p=>
   rw [he] at h2
   obtain ⟨hp,hpk⟩:=find_some he
   have c:=hh.keys p (.string ⟨#[]⟩) (by rw [strs_get,hpk];rfl)
   have o:=hh.opened p hp
   rw [Nat.zero_add] at c o
   exact hlay_new x.h _ _ p _ _ w hp h16 c o h1 h2
theorem has_lo(b i K w)(hi:i<0):
  Calls prog 63 #[.pointer (some ⟨b,0,none⟩), .int .i64 i, .string K] w fun e w'=>e= .returned (.bool false)∧w=w':=by
 have q:decide (i≥0)=false:=by simp;omega
 go_enter func63,ntmps63
 go_wp2_with fail
 go_ret
 exact ⟨rfl,rfl⟩
theorem has_hi(b i n cap a K)(w:World)(hi:n≤i)(h:w.cell? ⟨b,1,none⟩=some (.slice a n cap)):
  Calls prog 63 #[.pointer (some ⟨b,0,none⟩), .int .i64 i, .string K] w fun e w'=>e= .returned (.bool false)∧w=w':=by
 have HL:=Lib.hid (mlen_any b n cap a w h)
 go_enter func63,ntmps63
 go_wp2_with (go_at_call 99;(with_reducible refine (HL.out).mono ?_);rintro e w' ⟨rfl,rfl⟩)
 go_ret
 exact ⟨rfl,rfl⟩
theorem has_in(b i n cl gl kl key t)(K:ByteArray)(w:World)(hi:i<n)(hn:n≤1000)(hk:K.size=kl)(h:w.cell? ⟨b,1,none⟩=some (.slice (some ⟨gl,0,none⟩) n cl))(hc:w.cell? ⟨gl,i*4+1,none⟩=some (.int .i64 key))(ht:((kl:Int)==key)=t):
  Calls prog 63 #[.pointer (some ⟨b,0,none⟩), .int .i64 i, .string K] w fun e w'=>e= .returned (.bool t)∧w=w':=by
 have HL:=Lib.hid (mlen_any b n cl _ w h)
 have b1:(0:Int)≤(i:Int):=by omega
 have b2:(i:Int)<(n:Int):=by omega
 go_enter func63,ntmps63
 go_wp2_with (go_at_call 99;(with_reducible refine (HL.out).mono ?_);rintro e w' ⟨rfl,rfl⟩)
 go_ret
 exact ⟨rfl,rfl⟩
theorem has_any{A H w b mb S}(h:MapsAt w b mb S A H)(i)(key:List UInt8):
  Calls prog 63 #[.pointer (some ⟨b,0,none⟩), .int .i64 i, .string ⟨key.toArray⟩] w fun e w'=>e= .returned (.bool (mhas S i key).isSome)∧w=w':=by
 obtain ⟨l,rfl,h⟩:=h
 by_cases h0:i<0
 ·have e:mhas (l.map (·.t)) i key=none:=by unfold mhas;rw [if_neg (by omega)]
  rw [e]
  exact has_lo b i _ w h0
 ·obtain ⟨k,rfl⟩:=Int.eq_ofNat_of_zero_le (show 0≤i by omega)
  have hfew:=h.few
  by_cases h1:k<l.length
  ·have hx:l[k]? =some l[k]:=List.getElem?_eq_getElem h1
   obtain ⟨gl,cl,gt,ct,c1,c2,hi,_,_,d0,d1,d2,d3,_⟩:=h.at hx
   have e:(mhas (l.map (·.t)) k key).isSome=((key.length:Int)==l[k].t.d.key):=by
    unfold mhas
    rw [if_pos (by omega),Int.toNat_natCast,List.getElem?_map,hx]
    simp only [Option.map_some]
    by_cases hk:(key.length:Int)=l[k].t.d.key<;>simp [hk]
   rw [e]
   exact has_in b k l.length cl gl key.length _ _ _ w h1 (by omega) rfl c1 d1 rfl
  ·obtain ⟨a,c,c1⟩:=h.len
   have e:mhas (l.map (·.t)) k key=none:=by
    unfold mhas
    rw [if_pos (by omega),Int.toNat_natCast,List.getElem?_map,List.getElem?_eq_none (by omega)]
    rfl
   rw [e]
   exact has_hi b k l.length c a _ w (by omega) c1
theorem mvalue_walk(b i p n cl gl:Nat)(V:Int)(w:World)(hi:i<n)(hn:n≤4)(h:w.cell? ⟨b,1,none⟩=some (.slice (some ⟨gl,0,none⟩) n cl))(hc:w.cell? ⟨gl,i*4+2,none⟩=some (.int .i64 V))
  (h0:0≤(p:Int)*V) (h1:(p:Int)*V≤1024):
  Calls prog 64 #[.pointer (some ⟨b,0,none⟩), .int .i64 i, .int .i64 p] w fun e w'=>e= .returned (.int .u64 (mbase i+(p:Int)*V))∧∃q,w'=w.drewN q:=by
 have b1:(0:Int)≤(i:Int):=by omega
 have b2:(i:Int)<(n:Int):=by omega
 obtain ⟨M,hM⟩:∃M,M=(p:Int)*V:=⟨_,rfl⟩
 have e0:IntKind.i64.wrap ((p:Int)*V)=M:=by rw [hM];exact IntWalk.i64_in _ (by omega)
 rw [←hM] at h0 h1 ⊢
 have e1:IntKind.u64.wrap M=M:=IntWalk.u64_in _ (by omega)
 obtain ⟨B,hB⟩:∃B,B=mbase i:=⟨_,rfl⟩
 have hB0:0≤B∧B≤2000000:=by rw [hB];unfold mbase;omega
 have HB:Hid (∀W,Calls prog 57 #[.int .i64 i] W fun e w'=>e= .returned (.int .u64 B)∧W=w'):=fun W=>by rw [hB];exact mbase_any i W (by omega)
 rw [←hB]
 have e2:IntKind.u64.wrap (B+M)=B+M:=IntWalk.u64_in _ (by omega)
 clear hM hB hB0
 go_enter func64,ntmps64
 go_wp2_with fail
 go_quiet ((go_at_call 57;exact quiet_eq (HB.out _)))
 go_wp2_with fail
 go_ret
 exact ⟨rfl,_,rfl⟩
theorem mvalue_any{A H:Nat→Prop}{w:World}{b mb:Nat}{S:List Tab}(h:MapsAt w b mb S A H){i p:Nat}{t:Tab}(ht:S[i]? =some t)(hp:p<t.ks.length):
  Calls prog 64 #[.pointer (some ⟨b,0,none⟩), .int .i64 i, .int .i64 p] w fun e w'=>e= .returned (.int .u64 (mplace i p t))∧Fr No w w':=by
 obtain ⟨l,rfl,h⟩:=h
 rw [List.getElem?_map] at ht
 obtain ⟨x,hx,rfl⟩:=Option.map_eq_some_iff.1 ht
 obtain ⟨gl,cl,gt,ct,c1,c2,hi,_,_,d0,d1,d2,d3,_⟩:=h.at hx
 have hb:=mplace_bounds (i:=i) (h.ok x (List.mem_of_getElem? hx)) hp (by have:=h.few;omega)
 refine (mvalue_walk b i p l.length cl gl x.t.d.value w hi h.few c1 d2 hb.2.2.1 hb.2.2.2).mono ?_
 rintro e w' ⟨rfl,q,rfl⟩
 exact ⟨rfl,(Fr.refl _ _).drewN _⟩
theorem method_afind(n w):(method 397 148 (.int .i64 n) "firewall/maps.find").run prog w= .ok (182, .int .i64 n) w:=by kernel_rfl
theorem method_hfind(a n c w):(method 397 152 (.slice a n c) "firewall/maps.find").run prog w= .ok (159, .slice a n c) w:=by kernel_rfl
theorem method_alay(n w):(method 397 148 (.int .i64 n) "firewall/maps.lay").run prog w= .ok (183, .int .i64 n) w:=by kernel_rfl
theorem method_hlay(a n c w):(method 397 152 (.slice a n c) "firewall/maps.lay").run prog w= .ok (186, .slice a n c) w:=by kernel_rfl
structure Face(T:TypeId)(v:Value)(name:String)(f:Nat):Prop where
 meth:∀w,(method 397 T v name).run prog w= .ok (f,v) w
 enters:∀args w,(callFunc f args).run prog w= .ok (.enter f args) w
theorem face_afind(n):Face 148 (.int .i64 n) "firewall/maps.find" 182:=⟨method_afind n,enters_of func182 (by kernel_rfl) rfl⟩
theorem face_hfind(a n c):Face 152 (.slice a n c) "firewall/maps.find" 159:=⟨method_hfind a n c,enters_of func159 (by kernel_rfl) rfl⟩
theorem face_alay(n):Face 148 (.int .i64 n) "firewall/maps.lay" 183:=⟨method_alay n,enters_of func183 (by kernel_rfl) rfl⟩
theorem face_hlay(a n c):Face 152 (.slice a n c) "firewall/maps.lay" 186:=⟨method_hlay a n c,enters_of func186 (by kernel_rfl) rfl⟩
theorem lookup_bad(p i K w)(hh:Calls prog 63 #[p, .int .i64 i, .string K] w fun e w'=>e= .returned (.bool false)∧w=w'):
  Calls prog 143 #[p, .int .i64 i, .string K] w fun e w'=>e= .returned (.int .u64 0)∧w=w':=by
 have HH:=Lib.hid hh
 clear hh
 go_enter func143,ntmps143
 go_wp2_with (go_at_call 63;(with_reducible refine (HH.out).mono ?_);rintro e w' ⟨rfl,rfl⟩)
 go_ret
 exact ⟨rfl,rfl⟩
theorem lookup_off(b i n ct gt T v f K)(w:World)(hi:i<n)(h2:w.cell? ⟨b,2,none⟩=some (.slice (some ⟨gt,0,none⟩) n ct))(hc:w.cell? ⟨gt,i,none⟩=some (.iface T v))(hh:Calls prog 63 #[.pointer (some ⟨b,0,none⟩), .int .i64 i, .string K] w fun e w'=>e= .returned (.bool true)∧w=w')(hm:Face T v "firewall/maps.find" f)(hf:Calls prog f #[v, .string K] w fun e w'=>e= .returned (.int .i64 (-1))∧w=w'):
  Calls prog 143 #[.pointer (some ⟨b,0,none⟩), .int .i64 i, .string K] w fun e w'=>e= .returned (.int .u64 0)∧w=w':=by
 have b1:(0:Int)≤(i:Int):=by omega
 have b2:(i:Int)<(n:Int):=by omega
 have HH:=Lib.hid hh
 have HF:=Lib.hid hf
 obtain ⟨hm,he⟩:=hm
 clear hh hf
 go_enter func143,ntmps143
 go_wp2_with (go_at_call 63;(with_reducible refine (HH.out).mono ?_);rintro e w' ⟨rfl,rfl⟩)
 refine (HF.out).mono ?_
 rintro e w' ⟨rfl,rfl⟩
 go_wp2_with fail
 go_ret
 exact ⟨rfl,rfl⟩
theorem lookup_in(b i n ct gt p:Nat)(T:TypeId)(v:Value)(f:Nat)(K:ByteArray)(w:World)(r:Int)(hi:i<n)(h2:w.cell? ⟨b,2,none⟩=some (.slice (some ⟨gt,0,none⟩) n ct))(hc:w.cell? ⟨gt,i,none⟩=some (.iface T v))
  (hh:Calls prog 63 #[.pointer (some ⟨b,0,none⟩), .int .i64 i, .string K] w fun e w'=>e= .returned (.bool true)∧w=w')
  (hm:Face T v "firewall/maps.find" f) (hf:Calls prog f #[v, .string K] w fun e w'=>e= .returned (.int .i64 p)∧w=w')
  (hv:Calls prog 64 #[.pointer (some ⟨b,0,none⟩), .int .i64 i, .int .i64 p] w fun e w'=>e= .returned (.int .u64 r)∧Fr No w w'):
  Calls prog 143 #[.pointer (some ⟨b,0,none⟩), .int .i64 i, .string K] w fun e w'=>e= .returned (.int .u64 r)∧Fr No w w':=by
 have b1:(0:Int)≤(i:Int):=by omega
 have b2:(i:Int)<(n:Int):=by omega
 have HH:=Lib.hid hh
 have HF:=Lib.hid hf
 have HV:=Lib.hid hv
 obtain ⟨hm,he⟩:=hm
 clear hh hf hv
 go_enter func143,ntmps143
 go_wp2_with (go_at_call 63;(with_reducible refine (HH.out).mono ?_);rintro e w' ⟨rfl,rfl⟩)
 refine (HF.out).mono ?_
 rintro e w' ⟨rfl,rfl⟩
 go_wp2_with fail
 refine (HV.out).mono ?_
 rintro e w' ⟨rfl,hw⟩
 go_wp2_with fail
 go_ret
 exact ⟨rfl,hw⟩
theorem HTab.find_face{w}{x:HTab}(ok:x.t.ok)(hh:x.t.d.kind=2→x.here w)(key:List UInt8)(hk:(key.length:Int)=x.t.d.key):
  ∃T v f,x.cell= .iface T v∧Face T v "firewall/maps.find" f∧Calls prog f #[v, .string ⟨key.toArray⟩] w fun e w'=>e= .returned (.int .i64 (optI (x.t.find key)))∧w=w':=by
 rcases ok.kinds with h1|h2
 ·refine ⟨_,_,_,by unfold HTab.cell;rw [if_pos h1],face_afind _,afind_any ok h1 key (by have:=ok.key1 h1;omega)⟩
 ·exact ⟨_,_,_,by unfold HTab.cell;rw [if_neg (by omega)],face_hfind _ _ _,hfind_any (hh h2) (by have:=ok.bounds;omega) key⟩
theorem lookup_any{A H w b mb S}(h:MapsAt w b mb S A H)(i)(key:List UInt8):
  Calls prog 143 #[.pointer (some ⟨b,0,none⟩), .int .i64 i, .string ⟨key.toArray⟩] w fun e w'=>e= .returned (.int .u64 (mlookup S i key))∧Fr No w w':=by
 have hh:=has_any h i key
 have hmaps:=h
 obtain ⟨l,rfl,h⟩:=h
 unfold mlookup
 cases hm:mhas (l.map (·.t)) i key with
 |none=>
  rw [hm] at hh
  exact (lookup_bad _ i _ w hh).mono fun e w' ⟨he,hw⟩=>⟨he,hw ▸ Fr.refl _ _⟩
 |some t=>
  rw [hm] at hh
  obtain ⟨k,rfl,hk,hkl⟩:=mhas_some hm
  have hk0:=hk
  rw [List.getElem?_map] at hk
  obtain ⟨x,hx,rfl⟩:=Option.map_eq_some_iff.1 hk
  have hxm:=List.mem_of_getElem? hx
  obtain ⟨gl,cl,gt,ct,c1,c2,hi,_,_,d0,d1,d2,d3,d4⟩:=h.at hx
  obtain ⟨T,v,f,hcell,face,hf⟩:=HTab.find_face (h.ok x hxm) (fun h2=>(h.here x hxm h2).1) key hkl
  rw [hcell] at d4
  cases hp:x.t.find key with
  |none=>
   rw [hp] at hf
   exact (lookup_off b k l.length ct gt T v f _ w hi c2 d4 hh face hf).mono fun e w' ⟨he,hw⟩=>⟨by simpa [hp] using he,hw ▸ Fr.refl _ _⟩
  |some p=>
   rw [hp] at hf
   refine (lookup_in b k l.length ct gt p T v f _ w _ hi c2 d4 hh face hf (mvalue_any hmaps hk0 (find_some hp).1)).mono fun e w' ⟨he,hw⟩=>⟨?_,hw⟩
   simpa [hp] using he
def SrcAt(w:World)(u:Value)(m:Nat)(news:List Value):Prop:=(m=0∧news= []∧u= .slice none 0 0)∨∃ad c,u= .slice (some ad) m c∧∀j v,news[j]? =some v→w.cell? (ad.add j)=some v
theorem SrcAt.fr{S w w'}{u:Value}{m news}(h:SrcAt w u m news)(hf:Fr S w w')(hn:∀k,u.ownBlock=some k→¬S k):SrcAt w' u m news:=by
 rcases h with h|⟨ad,c,rfl,h⟩
 ·exact .inl h
 ·refine .inr ⟨ad,c,rfl,fun j v hj=>hf.cell (h j v hj) ?_⟩
  have:=hn ad.block rfl
  have e:(ad.add j).block=ad.block:=by unfold Addr.add;split<;>rfl
  rw [e];exact this
def OwnOf(v:Value):Nat→Prop:=fun k=>v.ownBlock=some k
theorem OwnOf.ge{w:World}{base n size e v xs}(h:w.ownsRow base e size v n xs){k}(hk:OwnOf v k):base≤k:=by
 rcases h.2 with ⟨rfl,_⟩|⟨g,cap,cur,rfl,hb,_⟩
 ·simp [OwnOf,Value.ownBlock] at hk
 ·simp [OwnOf,Value.ownBlock] at hk;omega
theorem grown_fr{w w':World}{v:Value}(h:w.grownBy w' v.ownBlock):Fr (OwnOf v) w w':=
 ⟨h.os,h.tape,h.output,h.size,fun k hk hs=>h.block k hk (fun he=>hs he.symm)⟩
theorem run_append_src{P:Program}{w:World}(t ty base e)(i:TypeInfo)(z:Value)(size bytes)(ht:P.underlying t=some (.slice e))(hi:P.info? e=some i)(hz:i.zero=some z)(hsize:i.size=size)(hby:i.bytes=bytes)(hzs:z.cells.size=size)(hsz:0<size)(v n xs)(hown:w.ownsRow base e size v n xs)(u:Value)(m)(news:List Value)(hu:SrcAt w u m news)(hl:news.length=m*size)(h1:∀u∈news,u.oneCell'=true)(h63:n+m≤maxLen)(hbytes:(n+m)*bytes≤140737488355328)(hbase:base≤w.heap.size):
  ∃v' w',(Builtin.append_ #[t,t] ty #[v,u]).run P w= .ok v' w'∧w'.ownsRow base e size v' (n+m) (xs++news)∧Fr (OwnOf v) w w':=by
 rcases hu with ⟨rfl,rfl,rfl⟩|⟨ad,c,rfl,hnews⟩
 ·exact ⟨v,w,run_append_owned_none (P:=P) (w:=w) base t ty e i size ht hi v n xs hown,by simpa using hown,Fr.refl _ _⟩
 ·obtain ⟨v',w',hr,h2,h3,_⟩:=run_append_own (P:=P) w base t ty e i z size bytes ht hi hz hsize hby hzs hsz v n xs hown ad m c news hl hnews h1 h63 hbytes hbase
  exact ⟨v',w',hr,h2,grown_fr h3⟩
theorem wp_append_src{P:Program}{w:World}{o:Oper}{a:Act}{K:Act→World→Prop}{Q}(s x t)(ho:o.op= .call {callee:= .builtin .append,args:= #[s,x],argTypes:= #[t,t]})(base e)(i:TypeInfo)(z:Value)(size bytes)(ht:P.underlying t=some (.slice e))(hi:P.info? e=some i)(hz:i.zero=some z)(hsize:i.size=size)(hby:i.bytes=bytes)(hzs:z.cells.size=size)(hsz:0<size)(v n xs)(hs:a.eval s=v)(hown:w.ownsRow base e size v n xs)(u:Value)(m)(news:List Value)(hx:a.eval x=u)(hu:SrcAt w u m news)(hl:news.length=m*size)(h1:∀u∈news,u.oneCell'=true)(h63:n+m≤maxLen)(hbytes:(n+m)*bytes≤140737488355328)(hbase:base≤w.heap.size)(h:∀v' w',w'.ownsRow base e size v' (n+m) (xs++news)→Fr (OwnOf v) w w'→K (a.put o.dst v') w'):o.wp P a w K Q:=by
 obtain ⟨v',w',hr,h2,h3⟩:=run_append_src (P:=P) t o.type base e i z size bytes ht hi hz hsize hby hzs hsz v n xs hown u m news hu hl h1 h63 hbytes hbase
 unfold Oper.wp execOp
 simp only [ho,resolve,invoke,builtin,Sem.run_bind,Sem.run_pure,Result.andThen_ok,List.map_toArray,List.map_cons,List.map_nil,hs,hx,hr]
 exact h v' w' h2 h3
theorem wpList_append_src{P:Program}{w:World}{ops rest}{o:Oper}{a:Act}{Q}(hgd:o.guard=none)(s x t)(ho:o.op= .call {callee:= .builtin .append,args:= #[s,x],argTypes:= #[t,t]})(base e)(i:TypeInfo)(z:Value)(size bytes)(ht:P.underlying t=some (.slice e))(hi:P.info? e=some i)(hz:i.zero=some z)(hsize:i.size=size)(hby:i.bytes=bytes)(hzs:z.cells.size=size)(hsz:0<size)(v n xs)(hs:a.eval s=v)(hown:w.ownsRow base e size v n xs)(u:Value)(m)(news:List Value)(hx:a.eval x=u)(hu:SrcAt w u m news)(hl:news.length=m*size)(h1:∀u∈news,u.oneCell'=true)(h63:n+m≤maxLen)(hbytes:(n+m)*bytes≤140737488355328)(hbase:base≤w.heap.size)(h:∀v' w',w'.ownsRow base e size v' (n+m) (xs++news)→Fr (OwnOf v) w w'→wpList P ops Q rest (a.put o.dst v') w'):wpList P ops Q (o::rest) a w:=
 wpList_plain hgd fun _ hK=>wp_append_src s x t ho base e i z size bytes ht hi hz hsize hby hzs hsz v n xs hs hown u m news hx hu hl h1 h63 hbytes hbase fun v' w' h2 h3=>hK _ _ (h v' w' h2 h3)
theorem step_append_src{P:Program}{w:World}{ops}{o:Oper}{a:Act}{K:Act→World→Prop}{Q E}(hgd:o.guard=none)(s x t)(ho:o.op= .call {callee:= .builtin .append,args:= #[s,x],argTypes:= #[t,t]})(base e)(i:TypeInfo)(z:Value)(size bytes)(ht:P.underlying t=some (.slice e))(hi:P.info? e=some i)(hz:i.zero=some z)(hsize:i.size=size)(hby:i.bytes=bytes)(hzs:z.cells.size=size)(hsz:0<size)(v n xs)(hs:a.eval s=v)(hown:w.ownsRow base e size v n xs)(u:Value)(m)(news:List Value)(hx:a.eval x=u)(hu:SrcAt w u m news)(hl:news.length=m*size)(h1:∀u∈news,u.oneCell'=true)(h63:n+m≤maxLen)(hbytes:(n+m)*bytes≤140737488355328)(hbase:base≤w.heap.size)(h:∀v' w',w'.ownsRow base e size v' (n+m) (xs++news)→Fr (OwnOf v) w w'→K (a.put o.dst v') w'):
  if Region.wanted o (yielded ops a.tmps)=true then Oper.wp P o a w K Q else E:=by
 have hw:Region.wanted o (yielded ops a.tmps)=true:=by simp [Region.wanted,hgd]
 rw [if_pos hw]
 exact wp_append_src s x t ho base e i z size bytes ht hi hz hsize hby hzs hsz v n xs hs hown u m news hx hu hl h1 h63 hbytes hbase h
theorem ownsRow_fr{S}{w w':World}{base size n e}{v:Value}{xs}(h:w.ownsRow base e size v n xs)(hf:Fr S w w')(hn:∀k,v.ownBlock=some k→¬S k):w'.ownsRow base e size v n xs:=by
 refine ⟨h.1,?_⟩
 rcases h.2 with h2|⟨g,cap,cur,hv,hb,hg,h3⟩
 ·exact .inl h2
 ·refine .inr ⟨g,cap,cur,hv,hb,?_,h3⟩
  have hlt:g<w.heap.size:=by
   rcases Nat.lt_or_ge g w.heap.size with h|h
   ·exact h
   ·rw [Array.getElem?_eq_none h] at hg;cases hg
  rw [hf.block g hlt (hn g (by rw [hv];rfl))]
  exact hg
structure Gath(w:World)(t:TypeId)(size n:Nat)(xs:List Value)(v:Value)(wr:World):Prop where
 fr:Fr No w wr
 own:wr.ownsRow w.heap.size t size v n xs
theorem Gath.start(w t size):Gath w t size 0 [] (.slice none 0 0) w:=⟨Fr.refl _ _,World.ownsRow_nil _ _ _ _⟩
theorem Gath.start'{w wr}(hf:Fr No w wr)(t size):Gath w t size 0 [] (.slice none 0 0) wr:=⟨hf,World.ownsRow_nil _ _ _ _⟩
theorem Gath.to{w wr w' t size n xs v}(h:Gath w t size n xs v wr)(hf:Fr No wr w'):Gath w t size n xs v w':=
 ⟨h.fr.trans hf,ownsRow_fr h.own hf (fun _ _=>id)⟩
theorem Gath.step{w wr w':World}{t size n xs news v v'}(h:Gath w t size n xs v wr)(ho:w'.ownsRow w.heap.size t size v' (n+1) (xs++news))(hf:Fr (OwnOf v) wr w'):Gath w t size (n+1) (xs++news) v' w':=
 ⟨((h.fr.any.trans (hf.mono fun k _ hk=>OwnOf.ge h.own hk)):Fr (From w) w w').ours,ho⟩
theorem Gath.cells{w w':World}{t size n xs v}(h:Gath w t size n xs v w'):(n=0∧xs= []∧∃a c,v= .slice a 0 c)∨∃g cap,v= .slice (some ⟨g,0,none⟩) n cap∧CellsAt w' g 0 xs∧w.heap.size≤g:=by
 rcases h.own.2 with ⟨rfl,h0⟩|⟨g,cap,cur,hv,hb,hg,_,_,_,hx⟩
 ·refine .inl ⟨h0,?_,_,_,rfl⟩
  have:=h.own.1
  rw [h0,Nat.zero_mul] at this
  exact List.eq_nil_of_length_eq_zero this
 ·refine .inr ⟨g,cap,hv,fun j u hj=> ?_,hb⟩
  rw [Nat.zero_add,cell_of_row w' g j cur t _ hg]
  rw [←hx,List.getElem?_take] at hj
  split at hj
  ·simpa using hj
  ·cases hj
theorem guard_append{P w ops}{o:Oper}{a:Act}{K:Act→World→Prop}{Q E}(s x t)(_ho:o.op= .call {callee:= .builtin .append,args:= #[s,x],argTypes:= #[t,t]})(h:if Region.wanted o (yielded ops a.tmps)=true then Oper.wp P o a w K Q else E):
  if Region.wanted o (yielded ops a.tmps)=true then Oper.wp P o a w K Q else E:=h
theorem src_new(w:World)(cs:List Value)(t):SrcAt (w.alloc (.cells cs.toArray t)) (.slice (some ⟨w.heap.size,0,none⟩) 1 1) 1 cs:=by
 refine .inr ⟨_,_,rfl,?_⟩
 exact World.news_of_block (cs:=cs.toArray) (by simpa using heap_alloc_new w (.cells cs.toArray t))
end Go.Proofs.YtfmcmfiebehhiaaGreatDoor
namespace Go.Proofs.YtfmcmfiebehhiaaGreatDoor
open Go.Proofs.Tryz
open Go.RowKit Go.Shelf Go.Lib Go.Sort
theorem isnan_u64(x w):Calls prog 94 #[.int .u64 x] w fun e w'=>e= .returned (.bool false)∧w=w':=by
 have h:(x !=x)=false:=by simp
 go_enter func94,ntmps94
 go_wp2
 go_ret
 exact ⟨rfl,rfl⟩
def cmp3(x y:Int):Int:=if x<y then-1 else if y<x then 1 else 0
theorem compare_u64(x y w):Calls prog 60 #[.int .u64 x, .int .u64 y] w fun e w'=>e= .returned (.int .i64 (cmp3 x y))∧w=w':=by
 by_cases h1:x<y
 ·have e:cmp3 x y= -1:=by simp [cmp3,h1]
  rw [e]
  clear e
  go_enter func60,ntmps60
  go_wp2_with (go_at_call 94;refine (isnan_u64 _ _).mono ?_;rintro e w' ⟨rfl,rfl⟩)
  go_ret
  exact ⟨rfl,rfl⟩
 ·by_cases h2:y<x
  ·have e:cmp3 x y=1:=by simp [cmp3,h1,h2]
   rw [e]
   clear e
   go_enter func60,ntmps60
   go_wp2_with (go_at_call 94;refine (isnan_u64 _ _).mono ?_;rintro e w' ⟨rfl,rfl⟩)
   go_ret
   exact ⟨rfl,rfl⟩
  ·have e:cmp3 x y=0:=by simp [cmp3,h1,h2]
   rw [e]
   clear e
   go_enter func60,ntmps60
   go_wp2_with (go_at_call 94;refine (isnan_u64 _ _).mono ?_;rintro e w' ⟨rfl,rfl⟩)
   go_ret
   exact ⟨rfl,rfl⟩
theorem new1_any(x y:HReg)(W:World):Calls prog 59 #[.agg #[.int .u64 x.r.base, .slice (some ⟨x.g,0,none⟩) x.r.data.length x.cap, .bool x.r.free], .agg #[.int .u64 y.r.base, .slice (some ⟨y.g,0,none⟩) y.r.data.length y.cap, .bool y.r.free]] W
  fun e w'=>e= .returned (.int .i64 (cmp3 x.r.base y.r.base))∧∃q os',w'=grow (W.drewN q) os':=by
 have hcon:=fun W'=>compare_u64 x.r.base y.r.base W'
 generalize cmp3 x.r.base y.r.base=r at hcon ⊢
 have HC:=Lib.hid hcon
 clear hcon
 go_enter func59,ntmps59
 go_wp2_with (go_at_call 60;refine (HC.out _).mono ?_;rintro e w' ⟨rfl,rfl⟩)
 go_ret
 exact ⟨rfl,0,_,by rw [alloc_eq_grow,alloc_eq_grow,grow_grow];rfl⟩
theorem cmpLays_reg(blk off size w):CmpLays prog 59 #[] HReg.cells 3 (fun x y=>cmp3 x.r.base y.r.base) blk off size w:=
 fun _ _ _ _ x y=>new1_any x y _
theorem hlen_reg(n:Nat)(W:World)(h:n≤12):Calls prog 93 #[.int .u64 n] W fun e w'=>(∃l:Int,e= .returned (.int .i64 l))∧w'=W:=
 (Any.bits_Len Tryz.lays125 n W (by omega) (by omega)).mono fun _ _ ⟨he,hw⟩=>⟨⟨_,he⟩,hw⟩
theorem lt_cmp3(x y:HReg):ltOf (fun x y:HReg=>cmp3 x.r.base y.r.base) x y=decide (x.r.base<y.r.base):=by
 unfold ltOf cmp3
 by_cases h1:x.r.base<y.r.base
 ·simp [h1]
 ·by_cases h2:y.r.base<x.r.base<;>simp [h1,h2]
theorem swo_reg:SWO (ltOf fun x y:HReg=>cmp3 x.r.base y.r.base) where
 irrefl x:=by rw [lt_cmp3];simp
 trans x y z h1 h2:=by rw [lt_cmp3] at*;simp at*;omega
 ntrans x y z h1 h2:=by rw [lt_cmp3] at*;simp at*;omega
theorem Tryz.isAgg_reg(w):(isAgg 138).run prog w= .ok true w:=by kernel_rfl
theorem Tryz.size_reg(w):(Go.sizeOf 138).run prog w= .ok 3 w:=by kernel_rfl
theorem sort_regs(bl cap)(d:Array HReg)(w:World)(hH:HoldsK HReg.cells 3 w bl 0 d)(hblk:bl<w.heap.size)(h12:d.size≤12):
  Calls prog 58 #[.slice (some ⟨bl,0,none⟩) d.size cap, .func (.func 59) #[] #[]] w
   fun e w'=>e= .returned (.tuple #[])∧∃d' n os,PermIn 0 d.size d d'∧SortedIn (ltOf fun x y:HReg=>cmp3 x.r.base y.r.base) 0 d.size d'∧w'=sortWorldK HReg.cells 3 w bl 0 n d' os:=by
 have eg:∀args w,(callFunc 59 args).run prog w= .ok (.enter 59 args) w:=enters_of func59 (by kernel_rfl) rfl
 exact AnyQ.slices_SortFunc_small_sorted Tryz.sortReg 3 Tryz.isAgg_reg Tryz.size_reg HReg.cells (fun _=>rfl) (fun x v hv=>by simp [HReg.cells] at hv;rcases hv with rfl|rfl|rfl<;>rfl) (fun x y=>cmp3 x.r.base y.r.base) 59 #[] swo_reg bl 0 cap d w eg (cmpLays_reg bl 0 d.size w) hH hblk h12 hlen_reg
end Go.Proofs.YtfmcmfiebehhiaaGreatDoor

