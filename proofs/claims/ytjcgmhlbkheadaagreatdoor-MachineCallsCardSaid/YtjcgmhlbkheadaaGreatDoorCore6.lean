/- maps: the small functions: Len, base, slices.Index of a hash's keys; array's and hash's methods. maps: hash's lay and key; has; value. maps: Lookup, Update, Delete: the walks. append onto a row of .. -/
import Derived.Test.YtjcgmhlbkheadaaGreatDoorCore5
import Derived.Deep.QuietTactic
import Derived.BigQuiet
import Derived.Outline
import Derived.Deep.RegionHeld3
import Derived.Shelf.Abstract
import Derived.Test.YtjcgmhlbkheadaaGreatDoorCore3
import Derived.Deep.AppendLies
import Derived.Laws.OwnMore
import Derived.Laws.AppendOwnNone
import Derived.RegionTactic
import Derived.Test.YtjcgmhlbkheadaaGreatDoorCoreS
set_option linter.all false
set_option linter.unusedVariables false
set_option linter.unusedSimpArgs false
set_option maxHeartbeats 1000000
namespace Go.Proofs.YtjcgmhlbkheadaaGreatDoor
open Go.RowKit
def optI:Option Nat→Int
 |none=> -1
 |some p=>p
theorem mlen_any(b n cap:Nat)(a:Option Addr)(w:World)(h:w.cell? ⟨b,1,none⟩=some (.slice a n cap)):
  Calls Tryz.prog 73 #[.pointer (some ⟨b,0,none⟩)] w fun e w'=>e= .returned (.int .i64 n)∧w=w':=by
 go_enter Tryz.func73,Tryz.ntmps73
 go_wp2_with fail
 go_ret
 exact ⟨rfl,rfl⟩
theorem u64_nat(n:Nat)(h:n≤18446744073709551615):IntKind.u64.wrap (n:Int)=n:=IntWalk.u64_in _ (by omega)
theorem mbase_any(i:Nat)(w:World)(hi:i≤1000):Calls Tryz.prog 45 #[.int .i64 i] w fun e w'=>e= .returned (.int .u64 (mbase i))∧w=w':=by
 have e1:IntKind.u64.wrap (i:Int)=i:=u64_nat i (by omega)
 have e2:IntKind.u64.wrap ((i:Int)*65536)=(i:Int)*65536:=IntWalk.u64_in _ (by omega)
 have e3:IntKind.u64.wrap (1048576+(i:Int)*65536)=1048576+(i:Int)*65536:=IntWalk.u64_in _ (by omega)
 go_enter Tryz.func45,Tryz.ntmps45
 go_wp2_with fail
 go_ret
 exact ⟨by unfold mbase;rfl,rfl⟩
theorem bytes_eql(a b:List UInt8):((⟨a.toArray⟩:ByteArray).toList==(⟨b.toArray⟩:ByteArray).toList)=decide (a=b):=by
 rw [Bool.eq_iff_iff]
 simp [ByteArray.toList_eq]
theorem index_walk(g n cap:Nat)(ks:List (List UInt8))(key:List UInt8)(w:World)(hn:ks.length=n)(hm:n≤1000000)(hc:CellsAt w g 0 (strs ks)):
  Calls Tryz.prog 147 #[.slice (some ⟨g,0,none⟩) n cap, .string ⟨key.toArray⟩] w fun e w'=>e= .returned (.int .i64 (optI (ks.findIdx? (·==key))))∧w=w':=by
 obtain ⟨K,hK⟩:∃K:ByteArray,K=⟨key.toArray⟩:=⟨_,rfl⟩
 rw [←hK]
 have HK:=Lib.hid hK
 have HN:=Lib.hid hn
 have HC:=Lib.hid hc
 clear hK hn hc
 go_enter Tryz.func147,Tryz.ntmps147
 go_wp2_with fail
 go_loop [5,8] (fun _ i=>∃k:Nat,k≤n∧i= .int .i64 k∧Hid (∀(j:Nat) x,j<k→ks[j]? =some x→x≠key)) (fun _ i=>n-(intOf i).toNat)
 case atStart=>exact ⟨0,Nat.zero_le _,rfl,fun j _ h=>absurd h (Nat.not_lt_zero _)⟩
 case round=>
  obtain ⟨k,hk,rfl,HJ⟩:=hrel
  by_cases hlt:k<n
  ·obtain ⟨x,hx⟩:∃x,ks[k]? =some x:=⟨ks[k]'(by rw [HN.out];exact hlt),List.getElem?_eq_getElem _⟩
   have hcell:w.cell? ⟨g,k,none⟩=some (.string ⟨x.toArray⟩):=by
    have:=HC.out k (.string ⟨x.toArray⟩) (by rw [strs_get,hx];rfl)
    rwa [Nat.zero_add] at this
   have heq:((K:ByteArray).toList==(⟨x.toArray⟩:ByteArray).toList)=decide (key=x):=by rw [HK.out];exact bytes_eql _ _
   obtain ⟨X,hX⟩:∃X:ByteArray,X=⟨x.toArray⟩:=⟨_,rfl⟩
   rw [←hX] at hcell heq
   have HX:=Lib.hid hx
   clear hX hx
   by_cases he:key=x
   ·have q:((K:ByteArray).toList==X.toList)=true:=by rw [heq];simpa using he
    have HF:Hid (ks.findIdx? (·==key)=some k):=Lib.hid (by
     rw [List.findIdx?_eq_some_iff_getElem]
     refine ⟨by rw [HN.out];exact hlt,?_,fun j hj=> ?_⟩
     ·have:=HX.out
      rw [List.getElem?_eq_getElem (by rw [HN.out];exact hlt)] at this
      rw [Option.some.inj this,he];simp
     ·have:=HJ.out j _ hj (List.getElem?_eq_getElem (by rw [HN.out];omega))
      simpa using this)
    clear heq he
    go_wp2_with fail
    go_ret
    exact ⟨by rw [HF.out];rfl,rfl⟩
   ·have q:((K:ByteArray).toList==X.toList)=false:=by rw [heq];simpa using he
    have HJ2:Hid (∀(j:Nat) y,j<k+1→ks[j]? =some y→y≠key):=fun j y hj hy=>by
     by_cases e:j=k
     ·subst e
      rw [HX.out] at hy
      obtain rfl:=Option.some.inj hy
      exact fun e=>he e.symm
     ·exact HJ.out j y (by omega) hy
    clear heq he
    go_wp2_with fail
    go_round
    case rel=>exact ⟨k+1,by omega,by go_num,HJ2⟩
    case measure=>simp [intOf]<;>omega
  ·obtain rfl:k=n:=by omega
   have HF:Hid (ks.findIdx? (·==key)=none):=Lib.hid (by
    rw [List.findIdx?_eq_none_iff]
    intro x hx
    obtain ⟨j,hj,rfl⟩:=List.getElem_of_mem hx
    have:=HJ.out j _ (by rw [←HN.out];exact hj) (List.getElem?_eq_getElem hj)
    simpa using this)
   go_wp2_with fail
   go_ret
   exact ⟨by rw [HF.out];rfl,rfl⟩
theorem hfind_walk(v:Value)(K:ByteArray)(r:Int)(w:World)(hi:Calls Tryz.prog 147 #[v, .string K] w fun e w'=>e= .returned (.int .i64 r)∧w=w'):
  Calls Tryz.prog 132 #[v, .string K] w fun e w'=>e= .returned (.int .i64 r)∧w=w':=by
 have HI:=Lib.hid hi
 clear hi
 go_enter Tryz.func132,Tryz.ntmps132
 go_wp2_with (go_at_call 147;(with_reducible refine (HI.out).mono ?_);rintro e w' ⟨rfl,rfl⟩)
 go_ret
 exact ⟨rfl,rfl⟩
theorem hfind_any{w:World}{x:HTab}(hh:x.here w)(h16:x.t.ks.length≤1000000)(key:List UInt8):
  Calls Tryz.prog 132 #[.slice (some ⟨x.h,0,none⟩) x.t.ks.length x.cap, .string ⟨key.toArray⟩] w fun e w'=>e= .returned (.int .i64 (optI (x.t.find key)))∧w=w':=
 hfind_walk _ _ _ w (index_walk x.h x.t.ks.length x.cap x.t.ks key w rfl h16 hh.keys)
def arrI(v n:Nat):Int:=if v<n then v else-1
theorem afind_walk(n v:Nat)(K:ByteArray)(w:World)(hn:n≤1000000)(hv:v<18446744073709551616)
  (hnum:Calls Tryz.prog 144 #[.string K] w fun e w'=>e= .returned (.int .u64 v)∧w=w'):
  Calls Tryz.prog 167 #[.int .i64 n, .string K] w fun e w'=>e= .returned (.int .i64 (arrI v n))∧w=w':=by
 have e1:IntKind.u64.wrap (n:Int)=n:=u64_nat n (by omega)
 have HN:=Lib.hid hnum
 have HV:=Lib.hid hv
 clear hnum hv
 by_cases h:v<n
 ·have e2:IntKind.i64.wrap (v:Int)=v:=IntWalk.i64_in _ (by omega)
  go_enter Tryz.func167,Tryz.ntmps167
  go_wp2_with (go_at_call 144;(with_reducible refine (HN.out).mono ?_);rintro e w' ⟨rfl,rfl⟩)
  go_ret
  exact ⟨by unfold arrI;rw [if_pos h];rfl,rfl⟩
 ·go_enter Tryz.func167,Tryz.ntmps167
  go_wp2_with (go_at_call 144;(with_reducible refine (HN.out).mono ?_);rintro e w' ⟨rfl,rfl⟩)
  go_ret
  exact ⟨by unfold arrI;rw [if_neg h];rfl,rfl⟩
theorem afind_any{w:World}{t:Tab}(ht:t.ok)(h1:t.d.kind=1)(key:List UInt8)(hk:key.length=4):
  Calls Tryz.prog 167 #[.int .i64 t.d.max, .string ⟨key.toArray⟩] w fun e w'=>e= .returned (.int .i64 (optI (t.find key)))∧w=w':=by
 have hb:=ht.bounds
 have hl:=ht.len
 have hlt:leNum key<2^32:=by have:=leNum_lt key;rw [hk] at this;exact this
 rw [←hl]
 refine (afind_walk t.ks.length (leNum key) ⟨key.toArray⟩ w (by omega) (by omega) ((num_any _ w (by show key.length≤maxLen;unfold maxLen;omega)).mono ?_)).mono ?_
 ·rintro e w' ⟨rfl,rfl⟩
  refine ⟨?_,rfl⟩
  show Ending.returned (.int .u64 ((leNum (key.take 8):Nat):Int))=_
  rw [List.take_of_length_le (by omega)]
 ·rintro e w' ⟨rfl,rfl⟩
  refine ⟨?_,rfl⟩
  rw [find_arr ht h1 key hk]
  unfold arrI
  split<;>rfl
theorem alay_any{w:World}{t:Tab}(ht:t.ok)(h1:t.d.kind=1)(key:List UInt8)(hk:key.length=4):
  Calls Tryz.prog 169 #[.int .i64 t.d.max, .string ⟨key.toArray⟩] w fun e w'=>e= .returned (.tuple #[.int .i64 (optI (t.find key)), .int .i64 (-2)])∧w=w':=by
 have HF:=Lib.hid (afind_any (w:=w) ht h1 key hk)
 go_enter Tryz.func169,Tryz.ntmps169
 go_wp2_with (go_at_call 167;(with_reducible refine (HF.out).mono ?_);rintro e w' ⟨rfl,rfl⟩)
 go_ret2
 exact ⟨rfl,rfl⟩
theorem quiet_eq{P:Program}{f:FuncId}{args:Array Value}{w:World}{n:Nat}{v:Value}
  (h:Calls P f args (w.drewN n) fun e w'=>e= .returned v∧w.drewN n=w'):Calls P f args (w.drewN n) fun e w''=>e= .returned v∧∃m,w''=w.drewN m:=
 h.mono fun _ _ ⟨he,hm⟩=>⟨he,n,hm.symm⟩
theorem hlay_has(v:Value)(K:ByteArray)(p:Nat)(w:World)(hi:Calls Tryz.prog 132 #[v, .string K] w fun e w'=>e= .returned (.int .i64 p)∧w=w'):
  Calls Tryz.prog 172 #[v, .string K] w fun e w'=>e= .returned (.tuple #[.int .i64 p, .int .i64 (-7)])∧w=w':=by
 have HI:=Lib.hid hi
 clear hi
 go_enter Tryz.func172,Tryz.ntmps172
 go_wp2_with (go_at_call 132;(with_reducible refine (HI.out).mono ?_);rintro e w' ⟨rfl,rfl⟩)
 go_ret2
 exact ⟨rfl,rfl⟩
theorem hlay_full(v:Value)(K:ByteArray)(w:World)(hi:Calls Tryz.prog 132 #[v, .string K] w fun e w'=>e= .returned (.int .i64 (-1))∧w=w')
  (he:Calls Tryz.prog 132 #[v, .string ⟨#[]⟩] w fun e w'=>e= .returned (.int .i64 (-1))∧w=w'):
  Calls Tryz.prog 172 #[v, .string K] w fun e w'=>e= .returned (.tuple #[.int .i64 (-1), .int .i64 (-7)])∧w=w':=by
 have HI:=Lib.hid hi
 have HE:=Lib.hid he
 clear hi he
 go_enter Tryz.func172,Tryz.ntmps172
 go_wp2_with fail
 refine (HI.out).mono ?_
 rintro e w' ⟨rfl,rfl⟩
 go_wp2_with fail
 refine (HE.out).mono ?_
 rintro e w' ⟨rfl,rfl⟩
 go_wp2_with fail
 go_ret2
 exact ⟨rfl,rfl⟩
theorem hlay_new(g n cap p:Nat)(K:ByteArray)(old:Value)(w:World)(hp:p<n)(hn:n≤1000000)(hold:w.cell? ⟨g,p,none⟩=some old)(hfree:w.frozen? ⟨g,p,none⟩=false)
  (hi:Calls Tryz.prog 132 #[.slice (some ⟨g,0,none⟩) n cap, .string K] w fun e w'=>e= .returned (.int .i64 (-1))∧w=w')
  (he:Calls Tryz.prog 132 #[.slice (some ⟨g,0,none⟩) n cap, .string ⟨#[]⟩] w fun e w'=>e= .returned (.int .i64 p)∧w=w'):
  Calls Tryz.prog 172 #[.slice (some ⟨g,0,none⟩) n cap, .string K] w fun e w'=>e= .returned (.tuple #[.int .i64 p, .int .i64 (-7)])∧w'=w.setCell ⟨g,p,none⟩ (.string K):=by
 have HI:=Lib.hid hi
 have HE:=Lib.hid he
 clear hi he
 go_enter Tryz.func172,Tryz.ntmps172
 go_wp2_with fail
 refine (HI.out).mono ?_
 rintro e w' ⟨rfl,rfl⟩
 go_wp2_with fail
 refine (HE.out).mono ?_
 rintro e w' ⟨rfl,rfl⟩
 go_wp2_with fail
 go_ret2
 exact ⟨rfl,rfl⟩
def LayPost(t:Tab)(g:Nat)(key:List UInt8)(w:World)(e:Ending)(w':World):Prop:=
 match t.find key with
 |some p=>e= .returned (.tuple #[.int .i64 p, .int .i64 (-7)])∧w=w'
 |none=>match t.find [] with
  |some p=>e= .returned (.tuple #[.int .i64 p, .int .i64 (-7)])∧w'=w.setCell ⟨g,p,none⟩ (.string ⟨key.toArray⟩)
  |none=>e= .returned (.tuple #[.int .i64 (-1), .int .i64 (-7)])∧w=w'
theorem hlay_any{w:World}{x:HTab}(hh:x.here w)(h16:x.t.ks.length≤1000000)(key:List UInt8):
  Calls Tryz.prog 172 #[.slice (some ⟨x.h,0,none⟩) x.t.ks.length x.cap, .string ⟨key.toArray⟩] w (LayPost x.t x.h key w):=by
 have h1:=hfind_any hh h16 key
 have h2:=hfind_any hh h16 []
 unfold LayPost
 cases hk:x.t.find key with
 |some p=>
  rw [hk] at h1
  exact hlay_has _ _ p w h1
 |none=>
  rw [hk] at h1
  cases he:x.t.find [] with
  |none=>
   rw [he] at h2
   exact hlay_full _ _ w h1 h2
  |some p=>
   rw [he] at h2
   obtain ⟨hp,hpk⟩:=find_some he
   have c:=hh.keys p (.string ⟨#[]⟩) (by rw [strs_get,hpk];rfl)
   have o:=hh.opened p hp
   rw [Nat.zero_add] at c o
   exact hlay_new x.h _ _ p _ _ w hp h16 c o h1 h2
theorem has_lo(b:Nat)(i:Int)(K:ByteArray)(w:World)(hi:i<0):
  Calls Tryz.prog 39 #[.pointer (some ⟨b,0,none⟩), .int .i64 i, .string K] w fun e w'=>e= .returned (.bool false)∧w=w':=by
 have q:decide (i≥0)=false:=by simp;omega
 go_enter Tryz.func39,Tryz.ntmps39
 go_wp2_with fail
 go_ret
 exact ⟨rfl,rfl⟩
theorem has_hi(b i n cap:Nat)(a:Option Addr)(K:ByteArray)(w:World)(hi:n≤i)(h:w.cell? ⟨b,1,none⟩=some (.slice a n cap)):
  Calls Tryz.prog 39 #[.pointer (some ⟨b,0,none⟩), .int .i64 i, .string K] w fun e w'=>e= .returned (.bool false)∧w=w':=by
 have HL:=Lib.hid (mlen_any b n cap a w h)
 go_enter Tryz.func39,Tryz.ntmps39
 go_wp2_with (go_at_call 73;(with_reducible refine (HL.out).mono ?_);rintro e w' ⟨rfl,rfl⟩)
 go_ret
 exact ⟨rfl,rfl⟩
theorem has_in(b i n cl gl kl:Nat)(key:Int)(t:Bool)(K:ByteArray)(w:World)(hi:i<n)(hn:n≤1000)(hk:K.size=kl)(h:w.cell? ⟨b,1,none⟩=some (.slice (some ⟨gl,0,none⟩) n cl))(hc:w.cell? ⟨gl,i*4+1,none⟩=some (.int .i64 key))
  (ht:((kl:Int)==key)=t):
  Calls Tryz.prog 39 #[.pointer (some ⟨b,0,none⟩), .int .i64 i, .string K] w fun e w'=>e= .returned (.bool t)∧w=w':=by
 have HL:=Lib.hid (mlen_any b n cl _ w h)
 have b1:(0:Int)≤(i:Int):=by omega
 have b2:(i:Int)<(n:Int):=by omega
 go_enter Tryz.func39,Tryz.ntmps39
 go_wp2_with (go_at_call 73;(with_reducible refine (HL.out).mono ?_);rintro e w' ⟨rfl,rfl⟩)
 go_ret
 exact ⟨rfl,rfl⟩
theorem has_any{A H:Nat→Prop}{w:World}{b mb:Nat}{S:List Tab}(h:MapsAt w b mb S A H)(i:Int)(key:List UInt8):
  Calls Tryz.prog 39 #[.pointer (some ⟨b,0,none⟩), .int .i64 i, .string ⟨key.toArray⟩] w fun e w'=>e= .returned (.bool (mhas S i key).isSome)∧w=w':=by
 obtain ⟨l,rfl,h⟩:=h
 by_cases h0:i<0
 ·have e:mhas (l.map (·.t)) i key=none:=by unfold mhas;rw [if_neg (by omega)]
  rw [e]
  exact has_lo b i _ w h0
 ·obtain ⟨k,rfl⟩:=Int.eq_ofNat_of_zero_le (show 0≤i by omega)
  have hfew:=h.few
  by_cases h1:k<l.length
  ·have hx:l[k]? =some l[k]:=List.getElem?_eq_getElem h1
   obtain ⟨gl,cl,gt,ct,c1,c2,hi,_,_,d0,d1,d2,d3,_⟩:=h.at hx
   have e:(mhas (l.map (·.t)) k key).isSome=((key.length:Int)==l[k].t.d.key):=by
    unfold mhas
    rw [if_pos (by omega),Int.toNat_natCast,List.getElem?_map,hx]
    simp only [Option.map_some]
    by_cases hk:(key.length:Int)=l[k].t.d.key<;>simp [hk]
   rw [e]
   exact has_in b k l.length cl gl key.length _ _ _ w h1 (by omega) rfl c1 d1 rfl
  ·obtain ⟨a,c,c1⟩:=h.len
   have e:mhas (l.map (·.t)) k key=none:=by
    unfold mhas
    rw [if_pos (by omega),Int.toNat_natCast,List.getElem?_map,List.getElem?_eq_none (by omega)]
    rfl
   rw [e]
   exact has_hi b k l.length c a _ w (by omega) c1
theorem mvalue_walk(b i p n cl gl:Nat)(V:Int)(w:World)(hi:i<n)(hn:n≤4)(h:w.cell? ⟨b,1,none⟩=some (.slice (some ⟨gl,0,none⟩) n cl))(hc:w.cell? ⟨gl,i*4+2,none⟩=some (.int .i64 V))
  (h0:0≤(p:Int)*V) (h1:(p:Int)*V≤1024):
  Calls Tryz.prog 40 #[.pointer (some ⟨b,0,none⟩), .int .i64 i, .int .i64 p] w fun e w'=>e= .returned (.int .u64 (mbase i+(p:Int)*V))∧∃q,w'=w.drewN q:=by
 have b1:(0:Int)≤(i:Int):=by omega
 have b2:(i:Int)<(n:Int):=by omega
 obtain ⟨M,hM⟩:∃M,M=(p:Int)*V:=⟨_,rfl⟩
 have e0:IntKind.i64.wrap ((p:Int)*V)=M:=by rw [hM];exact IntWalk.i64_in _ (by omega)
 rw [←hM] at h0 h1 ⊢
 have e1:IntKind.u64.wrap M=M:=IntWalk.u64_in _ (by omega)
 obtain ⟨B,hB⟩:∃B,B=mbase i:=⟨_,rfl⟩
 have hB0:0≤B∧B≤2000000:=by rw [hB];unfold mbase;omega
 have HB:Hid (∀W,Calls Tryz.prog 45 #[.int .i64 i] W fun e w'=>e= .returned (.int .u64 B)∧W=w'):=fun W=>by rw [hB];exact mbase_any i W (by omega)
 rw [←hB]
 have e2:IntKind.u64.wrap (B+M)=B+M:=IntWalk.u64_in _ (by omega)
 clear hM hB hB0
 go_enter Tryz.func40,Tryz.ntmps40
 go_wp2_with fail
 go_quiet ((go_at_call 45;exact quiet_eq (HB.out _)))
 go_wp2_with fail
 go_ret
 exact ⟨rfl,_,rfl⟩
theorem mvalue_any{A H:Nat→Prop}{w:World}{b mb:Nat}{S:List Tab}(h:MapsAt w b mb S A H){i p:Nat}{t:Tab}(ht:S[i]? =some t)(hp:p<t.ks.length):
  Calls Tryz.prog 40 #[.pointer (some ⟨b,0,none⟩), .int .i64 i, .int .i64 p] w fun e w'=>e= .returned (.int .u64 (mplace i p t))∧Fr No w w':=by
 obtain ⟨l,rfl,h⟩:=h
 rw [List.getElem?_map] at ht
 obtain ⟨x,hx,rfl⟩:=Option.map_eq_some_iff.1 ht
 obtain ⟨gl,cl,gt,ct,c1,c2,hi,_,_,d0,d1,d2,d3,_⟩:=h.at hx
 have hb:=mplace_bounds (i:=i) (h.ok x (List.mem_of_getElem? hx)) hp (by have:=h.few;omega)
 refine (mvalue_walk b i p l.length cl gl x.t.d.value w hi h.few c1 d2 hb.2.2.1 hb.2.2.2).mono ?_
 rintro e w' ⟨rfl,q,rfl⟩
 exact ⟨rfl,(Fr.refl _ _).drewN _⟩
theorem method_afind(n:Int)(w:World):(method 368 127 (.int .i64 n) "firewall/maps.find").run Tryz.prog w= .ok (167, .int .i64 n) w:=by kernel_rfl
theorem method_hfind(a:Option Addr)(n c:Nat)(w:World):(method 368 129 (.slice a n c) "firewall/maps.find").run Tryz.prog w= .ok (132, .slice a n c) w:=by kernel_rfl
theorem method_alay(n:Int)(w:World):(method 368 127 (.int .i64 n) "firewall/maps.lay").run Tryz.prog w= .ok (169, .int .i64 n) w:=by kernel_rfl
theorem method_hlay(a:Option Addr)(n c:Nat)(w:World):(method 368 129 (.slice a n c) "firewall/maps.lay").run Tryz.prog w= .ok (172, .slice a n c) w:=by kernel_rfl
structure Face(T:TypeId)(v:Value)(name:String)(f:Nat):Prop where
 meth:∀w,(method 368 T v name).run Tryz.prog w= .ok (f,v) w
 enters:∀args w,(callFunc f args).run Tryz.prog w= .ok (.enter f args) w
theorem face_afind(n:Int):Face 127 (.int .i64 n) "firewall/maps.find" 167:=⟨method_afind n,enters_of Tryz.func167 (by kernel_rfl) rfl⟩
theorem face_hfind(a:Option Addr)(n c:Nat):Face 129 (.slice a n c) "firewall/maps.find" 132:=⟨method_hfind a n c,enters_of Tryz.func132 (by kernel_rfl) rfl⟩
theorem face_alay(n:Int):Face 127 (.int .i64 n) "firewall/maps.lay" 169:=⟨method_alay n,enters_of Tryz.func169 (by kernel_rfl) rfl⟩
theorem face_hlay(a:Option Addr)(n c:Nat):Face 129 (.slice a n c) "firewall/maps.lay" 172:=⟨method_hlay a n c,enters_of Tryz.func172 (by kernel_rfl) rfl⟩
theorem lookup_bad(p:Value)(i:Int)(K:ByteArray)(w:World)(hh:Calls Tryz.prog 39 #[p, .int .i64 i, .string K] w fun e w'=>e= .returned (.bool false)∧w=w'):
  Calls Tryz.prog 14 #[p, .int .i64 i, .string K] w fun e w'=>e= .returned (.int .u64 0)∧w=w':=by
 have HH:=Lib.hid hh
 clear hh
 go_enter Tryz.func14,Tryz.ntmps14
 go_wp2_with (go_at_call 39;(with_reducible refine (HH.out).mono ?_);rintro e w' ⟨rfl,rfl⟩)
 go_ret
 exact ⟨rfl,rfl⟩
theorem lookup_off(b i n ct gt:Nat)(T:TypeId)(v:Value)(f:Nat)(K:ByteArray)(w:World)(hi:i<n)(h2:w.cell? ⟨b,2,none⟩=some (.slice (some ⟨gt,0,none⟩) n ct))(hc:w.cell? ⟨gt,i,none⟩=some (.iface T v))
  (hh:Calls Tryz.prog 39 #[.pointer (some ⟨b,0,none⟩), .int .i64 i, .string K] w fun e w'=>e= .returned (.bool true)∧w=w')
  (hm:Face T v "firewall/maps.find" f) (hf:Calls Tryz.prog f #[v, .string K] w fun e w'=>e= .returned (.int .i64 (-1))∧w=w'):
  Calls Tryz.prog 14 #[.pointer (some ⟨b,0,none⟩), .int .i64 i, .string K] w fun e w'=>e= .returned (.int .u64 0)∧w=w':=by
 have b1:(0:Int)≤(i:Int):=by omega
 have b2:(i:Int)<(n:Int):=by omega
 have HH:=Lib.hid hh
 have HF:=Lib.hid hf
 obtain ⟨hm,he⟩:=hm
 clear hh hf
 go_enter Tryz.func14,Tryz.ntmps14
 go_wp2_with (go_at_call 39;(with_reducible refine (HH.out).mono ?_);rintro e w' ⟨rfl,rfl⟩)
 refine (HF.out).mono ?_
 rintro e w' ⟨rfl,rfl⟩
 go_wp2_with fail
 go_ret
 exact ⟨rfl,rfl⟩
theorem lookup_in(b i n ct gt p:Nat)(T:TypeId)(v:Value)(f:Nat)(K:ByteArray)(w:World)(r:Int)(hi:i<n)(h2:w.cell? ⟨b,2,none⟩=some (.slice (some ⟨gt,0,none⟩) n ct))(hc:w.cell? ⟨gt,i,none⟩=some (.iface T v))
  (hh:Calls Tryz.prog 39 #[.pointer (some ⟨b,0,none⟩), .int .i64 i, .string K] w fun e w'=>e= .returned (.bool true)∧w=w')
  (hm:Face T v "firewall/maps.find" f) (hf:Calls Tryz.prog f #[v, .string K] w fun e w'=>e= .returned (.int .i64 p)∧w=w')
  (hv:Calls Tryz.prog 40 #[.pointer (some ⟨b,0,none⟩), .int .i64 i, .int .i64 p] w fun e w'=>e= .returned (.int .u64 r)∧Fr No w w'):
  Calls Tryz.prog 14 #[.pointer (some ⟨b,0,none⟩), .int .i64 i, .string K] w fun e w'=>e= .returned (.int .u64 r)∧Fr No w w':=by
 have b1:(0:Int)≤(i:Int):=by omega
 have b2:(i:Int)<(n:Int):=by omega
 have HH:=Lib.hid hh
 have HF:=Lib.hid hf
 have HV:=Lib.hid hv
 obtain ⟨hm,he⟩:=hm
 clear hh hf hv
 go_enter Tryz.func14,Tryz.ntmps14
 go_wp2_with (go_at_call 39;(with_reducible refine (HH.out).mono ?_);rintro e w' ⟨rfl,rfl⟩)
 refine (HF.out).mono ?_
 rintro e w' ⟨rfl,rfl⟩
 go_wp2_with fail
 refine (HV.out).mono ?_
 rintro e w' ⟨rfl,hw⟩
 go_wp2_with fail
 go_ret
 exact ⟨rfl,hw⟩
theorem HTab.find_face{w:World}{x:HTab}(ok:x.t.ok)(hh:x.t.d.kind=2→x.here w)(key:List UInt8)(hk:(key.length:Int)=x.t.d.key):
  ∃T v f,x.cell= .iface T v∧Face T v "firewall/maps.find" f∧Calls Tryz.prog f #[v, .string ⟨key.toArray⟩] w fun e w'=>e= .returned (.int .i64 (optI (x.t.find key)))∧w=w':=by
 rcases ok.kinds with h1|h2
 ·refine ⟨_,_,_,by unfold HTab.cell;rw [if_pos h1],face_afind _,afind_any ok h1 key (by have:=ok.key1 h1;omega)⟩
 ·exact ⟨_,_,_,by unfold HTab.cell;rw [if_neg (by omega)],face_hfind _ _ _,hfind_any (hh h2) (by have:=ok.bounds;omega) key⟩
theorem lookup_any{A H:Nat→Prop}{w:World}{b mb:Nat}{S:List Tab}(h:MapsAt w b mb S A H)(i:Int)(key:List UInt8):
  Calls Tryz.prog 14 #[.pointer (some ⟨b,0,none⟩), .int .i64 i, .string ⟨key.toArray⟩] w fun e w'=>e= .returned (.int .u64 (mlookup S i key))∧Fr No w w':=by
 have hh:=has_any h i key
 have hmaps:=h
 obtain ⟨l,rfl,h⟩:=h
 unfold mlookup
 cases hm:mhas (l.map (·.t)) i key with
 |none=>
  rw [hm] at hh
  exact (lookup_bad _ i _ w hh).mono fun e w' ⟨he,hw⟩=>⟨he,hw ▸ Fr.refl _ _⟩
 |some t=>
  rw [hm] at hh
  obtain ⟨k,rfl,hk,hkl⟩:=mhas_some hm
  have hk0:=hk
  rw [List.getElem?_map] at hk
  obtain ⟨x,hx,rfl⟩:=Option.map_eq_some_iff.1 hk
  have hxm:=List.mem_of_getElem? hx
  obtain ⟨gl,cl,gt,ct,c1,c2,hi,_,_,d0,d1,d2,d3,d4⟩:=h.at hx
  obtain ⟨T,v,f,hcell,face,hf⟩:=HTab.find_face (h.ok x hxm) (fun h2=>(h.here x hxm h2).1) key hkl
  rw [hcell] at d4
  cases hp:x.t.find key with
  |none=>
   rw [hp] at hf
   exact (lookup_off b k l.length ct gt T v f _ w hi c2 d4 hh face hf).mono fun e w' ⟨he,hw⟩=>⟨by simpa [hp] using he,hw ▸ Fr.refl _ _⟩
  |some p=>
   rw [hp] at hf
   refine (lookup_in b k l.length ct gt p T v f _ w _ hi c2 d4 hh face hf (mvalue_any hmaps hk0 (find_some hp).1)).mono fun e w' ⟨he,hw⟩=>⟨?_,hw⟩
   simpa [hp] using he
def SrcAt(w:World)(u:Value)(m:Nat)(news:List Value):Prop:=(m=0∧news= []∧u= .slice none 0 0)∨∃ad c,u= .slice (some ad) m c∧∀j v,news[j]? =some v→w.cell? (ad.add j)=some v
theorem SrcAt.fr{S:Nat→Prop}{w w':World}{u:Value}{m:Nat}{news:List Value}(h:SrcAt w u m news)(hf:Fr S w w')(hn:∀k,u.ownBlock=some k→¬S k):SrcAt w' u m news:=by
 rcases h with h|⟨ad,c,rfl,h⟩
 ·exact .inl h
 ·refine .inr ⟨ad,c,rfl,fun j v hj=>hf.cell (h j v hj) ?_⟩
  have:=hn ad.block rfl
  have e:(ad.add j).block=ad.block:=by unfold Addr.add;split<;>rfl
  rw [e];exact this
def OwnOf(v:Value):Nat→Prop:=fun k=>v.ownBlock=some k
theorem OwnOf.ge{w:World}{base n size:Nat}{e:TypeId}{v:Value}{xs:List Value}(h:w.ownsRow base e size v n xs){k:Nat}(hk:OwnOf v k):base≤k:=by
 rcases h.2 with ⟨rfl,_⟩|⟨g,cap,cur,rfl,hb,_⟩
 ·simp [OwnOf,Value.ownBlock] at hk
 ·simp [OwnOf,Value.ownBlock] at hk;omega
theorem grown_fr{w w':World}{v:Value}(h:w.grownBy w' v.ownBlock):Fr (OwnOf v) w w':=
 ⟨h.os,h.tape,h.output,h.size,fun k hk hs=>h.block k hk (fun he=>hs he.symm)⟩
theorem run_append_src{P:Program}{w:World}(t ty:TypeId)(base:Nat)(e:TypeId)(i:TypeInfo)(z:Value)(size bytes:Nat)(ht:P.underlying t=some (.slice e))(hi:P.info? e=some i)(hz:i.zero=some z)
  (hsize:i.size=size) (hby:i.bytes=bytes) (hzs:z.cells.size=size) (hsz:0<size)
  (v:Value) (n:Nat) (xs:List Value) (hown:w.ownsRow base e size v n xs) (u:Value) (m:Nat) (news:List Value) (hu:SrcAt w u m news) (hl:news.length=m*size) (h1:∀u∈news,u.oneCell'=true)
  (h63:n+m≤maxLen) (hbytes:(n+m)*bytes≤140737488355328) (hbase:base≤w.heap.size):
  ∃v' w',(Builtin.append_ #[t,t] ty #[v,u]).run P w= .ok v' w'∧w'.ownsRow base e size v' (n+m) (xs++news)∧Fr (OwnOf v) w w':=by
 rcases hu with ⟨rfl,rfl,rfl⟩|⟨ad,c,rfl,hnews⟩
 ·exact ⟨v,w,run_append_owned_none (P:=P) (w:=w) base t ty e i size ht hi v n xs hown,by simpa using hown,Fr.refl _ _⟩
 ·obtain ⟨v',w',hr,h2,h3,_⟩:=run_append_own (P:=P) w base t ty e i z size bytes ht hi hz hsize hby hzs hsz v n xs hown ad m c news hl hnews h1 h63 hbytes hbase
  exact ⟨v',w',hr,h2,grown_fr h3⟩
theorem wp_append_src{P:Program}{w:World}{o:Oper}{a:Act}{K:Act→World→Prop}{Q:Exit→Act→World→Prop}(s x:Operand)(t:TypeId)
  (ho:o.op= .call {callee:= .builtin .append,args:= #[s,x],argTypes:= #[t,t]})
  (base:Nat) (e:TypeId) (i:TypeInfo) (z:Value) (size bytes:Nat) (ht:P.underlying t=some (.slice e)) (hi:P.info? e=some i) (hz:i.zero=some z)
  (hsize:i.size=size) (hby:i.bytes=bytes) (hzs:z.cells.size=size) (hsz:0<size)
  (v:Value) (n:Nat) (xs:List Value) (hs:a.eval s=v) (hown:w.ownsRow base e size v n xs) (u:Value) (m:Nat) (news:List Value) (hx:a.eval x=u) (hu:SrcAt w u m news) (hl:news.length=m*size) (h1:∀u∈news,u.oneCell'=true)
  (h63:n+m≤maxLen) (hbytes:(n+m)*bytes≤140737488355328) (hbase:base≤w.heap.size)
  (h:∀v' w',w'.ownsRow base e size v' (n+m) (xs++news)→Fr (OwnOf v) w w'→K (a.put o.dst v') w'):o.wp P a w K Q:=by
 obtain ⟨v',w',hr,h2,h3⟩:=run_append_src (P:=P) t o.type base e i z size bytes ht hi hz hsize hby hzs hsz v n xs hown u m news hu hl h1 h63 hbytes hbase
 unfold Oper.wp execOp
 simp only [ho,resolve,invoke,builtin,Sem.run_bind,Sem.run_pure,Result.andThen_ok,List.map_toArray,List.map_cons,List.map_nil,hs,hx,hr]
 exact h v' w' h2 h3
theorem wpList_append_src{P:Program}{w:World}{ops:Array Oper}{rest:List Oper}{o:Oper}{a:Act}{Q:Exit→Act→World→Prop}(hgd:o.guard=none)(s x:Operand)(t:TypeId)
  (ho:o.op= .call {callee:= .builtin .append,args:= #[s,x],argTypes:= #[t,t]})
  (base:Nat) (e:TypeId) (i:TypeInfo) (z:Value) (size bytes:Nat) (ht:P.underlying t=some (.slice e)) (hi:P.info? e=some i) (hz:i.zero=some z)
  (hsize:i.size=size) (hby:i.bytes=bytes) (hzs:z.cells.size=size) (hsz:0<size)
  (v:Value) (n:Nat) (xs:List Value) (hs:a.eval s=v) (hown:w.ownsRow base e size v n xs) (u:Value) (m:Nat) (news:List Value) (hx:a.eval x=u) (hu:SrcAt w u m news) (hl:news.length=m*size) (h1:∀u∈news,u.oneCell'=true)
  (h63:n+m≤maxLen) (hbytes:(n+m)*bytes≤140737488355328) (hbase:base≤w.heap.size)
  (h:∀v' w',w'.ownsRow base e size v' (n+m) (xs++news)→Fr (OwnOf v) w w'→wpList P ops Q rest (a.put o.dst v') w'):wpList P ops Q (o::rest) a w:=
 wpList_plain hgd fun _ hK=>wp_append_src s x t ho base e i z size bytes ht hi hz hsize hby hzs hsz v n xs hs hown u m news hx hu hl h1 h63 hbytes hbase fun v' w' h2 h3=>hK _ _ (h v' w' h2 h3)
theorem step_append_src{P:Program}{w:World}{ops:Array Oper}{o:Oper}{a:Act}{K:Act→World→Prop}{Q:Exit→Act→World→Prop}{E:Prop}(hgd:o.guard=none)(s x:Operand)(t:TypeId)
  (ho:o.op= .call {callee:= .builtin .append,args:= #[s,x],argTypes:= #[t,t]})
  (base:Nat) (e:TypeId) (i:TypeInfo) (z:Value) (size bytes:Nat) (ht:P.underlying t=some (.slice e)) (hi:P.info? e=some i) (hz:i.zero=some z)
  (hsize:i.size=size) (hby:i.bytes=bytes) (hzs:z.cells.size=size) (hsz:0<size)
  (v:Value) (n:Nat) (xs:List Value) (hs:a.eval s=v) (hown:w.ownsRow base e size v n xs) (u:Value) (m:Nat) (news:List Value) (hx:a.eval x=u) (hu:SrcAt w u m news) (hl:news.length=m*size) (h1:∀u∈news,u.oneCell'=true)
  (h63:n+m≤maxLen) (hbytes:(n+m)*bytes≤140737488355328) (hbase:base≤w.heap.size)
  (h:∀v' w',w'.ownsRow base e size v' (n+m) (xs++news)→Fr (OwnOf v) w w'→K (a.put o.dst v') w'):
  if Region.wanted o (yielded ops a.tmps)=true then Oper.wp P o a w K Q else E:=by
 have hw:Region.wanted o (yielded ops a.tmps)=true:=by simp [Region.wanted,hgd]
 rw [if_pos hw]
 exact wp_append_src s x t ho base e i z size bytes ht hi hz hsize hby hzs hsz v n xs hs hown u m news hx hu hl h1 h63 hbytes hbase h
theorem ownsRow_fr{S:Nat→Prop}{w w':World}{base size n:Nat}{e:TypeId}{v:Value}{xs:List Value}(h:w.ownsRow base e size v n xs)(hf:Fr S w w')(hn:∀k,v.ownBlock=some k→¬S k):w'.ownsRow base e size v n xs:=by
 refine ⟨h.1,?_⟩
 rcases h.2 with h2|⟨g,cap,cur,hv,hb,hg,h3⟩
 ·exact .inl h2
 ·refine .inr ⟨g,cap,cur,hv,hb,?_,h3⟩
  have hlt:g<w.heap.size:=by
   rcases Nat.lt_or_ge g w.heap.size with h|h
   ·exact h
   ·rw [Array.getElem?_eq_none h] at hg;cases hg
  rw [hf.block g hlt (hn g (by rw [hv];rfl))]
  exact hg
structure Gath(w:World)(t:TypeId)(size n:Nat)(xs:List Value)(v:Value)(wr:World):Prop where
 fr:Fr No w wr
 own:wr.ownsRow w.heap.size t size v n xs
theorem Gath.start(w:World)(t:TypeId)(size:Nat):Gath w t size 0 [] (.slice none 0 0) w:=⟨Fr.refl _ _,World.ownsRow_nil _ _ _ _⟩
theorem Gath.start'{w wr:World}(hf:Fr No w wr)(t:TypeId)(size:Nat):Gath w t size 0 [] (.slice none 0 0) wr:=⟨hf,World.ownsRow_nil _ _ _ _⟩
theorem Gath.to{w wr w':World}{t:TypeId}{size n:Nat}{xs:List Value}{v:Value}(h:Gath w t size n xs v wr)(hf:Fr No wr w'):Gath w t size n xs v w':=
 ⟨h.fr.trans hf,ownsRow_fr h.own hf (fun _ _=>id)⟩
theorem Gath.step{w wr w':World}{t:TypeId}{size n:Nat}{xs news:List Value}{v v':Value}(h:Gath w t size n xs v wr)(ho:w'.ownsRow w.heap.size t size v' (n+1) (xs++news))(hf:Fr (OwnOf v) wr w'):Gath w t size (n+1) (xs++news) v' w':=
 ⟨((h.fr.any.trans (hf.mono fun k _ hk=>OwnOf.ge h.own hk)):Fr (From w) w w').ours,ho⟩
theorem Gath.cells{w w':World}{t:TypeId}{size n:Nat}{xs:List Value}{v:Value}(h:Gath w t size n xs v w'):(n=0∧xs= []∧∃a c,v= .slice a 0 c)∨∃g cap,v= .slice (some ⟨g,0,none⟩) n cap∧CellsAt w' g 0 xs∧w.heap.size≤g:=by
 rcases h.own.2 with ⟨rfl,h0⟩|⟨g,cap,cur,hv,hb,hg,_,_,_,hx⟩
 ·refine .inl ⟨h0,?_,_,_,rfl⟩
  have:=h.own.1
  rw [h0,Nat.zero_mul] at this
  exact List.eq_nil_of_length_eq_zero this
 ·refine .inr ⟨g,cap,hv,fun j u hj=> ?_,hb⟩
  rw [Nat.zero_add,cell_of_row w' g j cur t _ hg]
  rw [←hx,List.getElem?_take] at hj
  split at hj
  ·simpa using hj
  ·cases hj
theorem guard_append{P:Program}{w:World}{ops:Array Oper}{o:Oper}{a:Act}{K:Act→World→Prop}{Q:Exit→Act→World→Prop}{E:Prop}(s x:Operand)(t:TypeId)
  (_ho:o.op= .call {callee:= .builtin .append,args:= #[s,x],argTypes:= #[t,t]}) (h:if Region.wanted o (yielded ops a.tmps)=true then Oper.wp P o a w K Q else E):
  if Region.wanted o (yielded ops a.tmps)=true then Oper.wp P o a w K Q else E:=h
theorem src_new(w:World)(cs:List Value)(t:TypeId):SrcAt (w.alloc (.cells cs.toArray t)) (.slice (some ⟨w.heap.size,0,none⟩) 1 1) 1 cs:=by
 refine .inr ⟨_,_,rfl,?_⟩
 exact World.news_of_block (cs:=cs.toArray) (by simpa using heap_alloc_new w (.cells cs.toArray t))
end Go.Proofs.YtjcgmhlbkheadaaGreatDoor
namespace Go.Proofs.YtjcgmhlbkheadaaGreatDoor
open Go.RowKit Go.Shelf Go.Lib Go.Sort
theorem isnan_u64(x:Int)(w:World):Calls Tryz.prog 85 #[.int .u64 x] w fun e w'=>e= .returned (.bool false)∧w=w':=by
 have h:(x !=x)=false:=by simp
 go_enter Tryz.func85,Tryz.ntmps85
 go_wp2
 go_ret
 exact ⟨rfl,rfl⟩
def cmp3(x y:Int):Int:=if x<y then-1 else if y<x then 1 else 0
theorem compare_u64(x y:Int)(w:World):Calls Tryz.prog 48 #[.int .u64 x, .int .u64 y] w fun e w'=>e= .returned (.int .i64 (cmp3 x y))∧w=w':=by
 by_cases h1:x<y
 ·have e:cmp3 x y= -1:=by simp [cmp3,h1]
  rw [e]
  clear e
  go_enter Tryz.func48,Tryz.ntmps48
  go_wp2_with (go_at_call 85;refine (isnan_u64 _ _).mono ?_;rintro e w' ⟨rfl,rfl⟩)
  go_ret
  exact ⟨rfl,rfl⟩
 ·by_cases h2:y<x
  ·have e:cmp3 x y=1:=by simp [cmp3,h1,h2]
   rw [e]
   clear e
   go_enter Tryz.func48,Tryz.ntmps48
   go_wp2_with (go_at_call 85;refine (isnan_u64 _ _).mono ?_;rintro e w' ⟨rfl,rfl⟩)
   go_ret
   exact ⟨rfl,rfl⟩
  ·have e:cmp3 x y=0:=by simp [cmp3,h1,h2]
   rw [e]
   clear e
   go_enter Tryz.func48,Tryz.ntmps48
   go_wp2_with (go_at_call 85;refine (isnan_u64 _ _).mono ?_;rintro e w' ⟨rfl,rfl⟩)
   go_ret
   exact ⟨rfl,rfl⟩
theorem new1_any(x y:HReg)(W:World):Calls Tryz.prog 47 #[.agg #[.int .u64 x.r.base, .slice (some ⟨x.g,0,none⟩) x.r.data.length x.cap, .bool x.r.free], .agg #[.int .u64 y.r.base, .slice (some ⟨y.g,0,none⟩) y.r.data.length y.cap, .bool y.r.free]] W
  fun e w'=>e= .returned (.int .i64 (cmp3 x.r.base y.r.base))∧∃q os',w'=grow (W.drewN q) os':=by
 have hcon:=fun W'=>compare_u64 x.r.base y.r.base W'
 generalize cmp3 x.r.base y.r.base=r at hcon ⊢
 have HC:=Lib.hid hcon
 clear hcon
 go_enter Tryz.func47,Tryz.ntmps47
 go_wp2_with (go_at_call 48;refine (HC.out _).mono ?_;rintro e w' ⟨rfl,rfl⟩)
 go_ret
 exact ⟨rfl,0,_,by rw [alloc_eq_grow,alloc_eq_grow,grow_grow];rfl⟩
theorem cmpLays_reg(blk off size:Nat)(w:World):CmpLays Tryz.prog 47 #[] HReg.cells 3 (fun x y=>cmp3 x.r.base y.r.base) blk off size w:=
 fun _ _ _ _ x y=>new1_any x y _
theorem hlen_reg(n:Nat)(W:World)(h:n≤12):Calls Tryz.prog 84 #[.int .u64 n] W fun e w'=>(∃l:Int,e= .returned (.int .i64 l))∧w'=W:=
 (Any.bits_Len Tryz.lays125 n W (by omega) (by omega)).mono fun _ _ ⟨he,hw⟩=>⟨⟨_,he⟩,hw⟩
theorem lt_cmp3(x y:HReg):ltOf (fun x y:HReg=>cmp3 x.r.base y.r.base) x y=decide (x.r.base<y.r.base):=by
 unfold ltOf cmp3
 by_cases h1:x.r.base<y.r.base
 ·simp [h1]
 ·by_cases h2:y.r.base<x.r.base<;>simp [h1,h2]
theorem swo_reg:SWO (ltOf fun x y:HReg=>cmp3 x.r.base y.r.base) where
 irrefl x:=by rw [lt_cmp3];simp
 trans x y z h1 h2:=by rw [lt_cmp3] at*;simp at*;omega
 ntrans x y z h1 h2:=by rw [lt_cmp3] at*;simp at*;omega
theorem Tryz.isAgg_reg(w:World):(isAgg 120).run Tryz.prog w= .ok true w:=by kernel_rfl
theorem Tryz.size_reg(w:World):(Go.sizeOf 120).run Tryz.prog w= .ok 3 w:=by kernel_rfl
theorem sort_regs(bl cap:Nat)(d:Array HReg)(w:World)(hH:HoldsK HReg.cells 3 w bl 0 d)(hblk:bl<w.heap.size)(h12:d.size≤12):
  Calls Tryz.prog 46 #[.slice (some ⟨bl,0,none⟩) d.size cap, .func (.func 47) #[] #[]] w
   fun e w'=>e= .returned (.tuple #[])∧∃d' n os,PermIn 0 d.size d d'∧SortedIn (ltOf fun x y:HReg=>cmp3 x.r.base y.r.base) 0 d.size d'∧w'=sortWorldK HReg.cells 3 w bl 0 n d' os:=by
 have eg:∀args w,(callFunc 47 args).run Tryz.prog w= .ok (.enter 47 args) w:=enters_of Tryz.func47 (by kernel_rfl) rfl
 exact AnyQ.slices_SortFunc_small_sorted Tryz.sortReg 3 Tryz.isAgg_reg Tryz.size_reg HReg.cells (fun _=>rfl) (fun x v hv=>by simp [HReg.cells] at hv;rcases hv with rfl|rfl|rfl<;>rfl) (fun x y=>cmp3 x.r.base y.r.base) 47 #[] swo_reg bl 0 cap d w eg (cmpLays_reg bl 0 d.size w) hH hblk h12 hlen_reg
end Go.Proofs.YtjcgmhlbkheadaaGreatDoor
