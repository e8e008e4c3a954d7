/- Maps without the program: what they are, the keys at their places, the values in a memory. No condition. Maps in a world: where the tables lie. No condition. maps: the small functions: Len, base, .. -/
import Derived.Test.YtfmcmfiebehhiaaGreatDoorCore3
import Derived.Deep.QuietTactic
import Derived.BigQuiet
import Derived.Outline
set_option linter.all false
set_option linter.unusedVariables false
set_option linter.unusedSimpArgs false
set_option maxHeartbeats 1000000
namespace Go.Proofs.YtfmcmfiebehhiaaGreatDoor
open Go.Proofs.Tryz
open Go.RowKit
structure MapD where
 kind:Int
 key:Int
 value:Int
 max:Int
def MapD.keyOk(x:MapD):Bool:=(x.kind==1&&x.key==4)||(x.kind==2&&decide (1≤x.key)&&decide (x.key≤8))
def MapD.may(x:MapD):Bool:=x.keyOk&&decide (1≤x.value)&&decide (x.value≤64)&&decide (1≤x.max)&&decide (x.max≤16)
def mayL(l:List MapD):Bool:=decide (l.length≤4)&&l.all MapD.may
theorem MapD.may_iff(x:MapD):x.may=true↔((x.kind=1∧x.key=4)∨(x.kind=2∧1≤x.key∧x.key≤8))∧1≤x.value∧x.value≤64∧1≤x.max∧x.max≤16:=by
 unfold MapD.may MapD.keyOk
 simp only [Bool.and_eq_true,Bool.or_eq_true,beq_iff_eq,decide_eq_true_eq]
 constructor
 ·rintro ⟨⟨⟨⟨h,a⟩,b⟩,c⟩,d⟩
  exact ⟨by omega,a,b,c,d⟩
 ·rintro ⟨h,a,b,c,d⟩
  exact ⟨⟨⟨⟨by omega,a⟩,b⟩,c⟩,d⟩
theorem mayL_iff(l:List MapD):mayL l=true↔l.length≤4∧∀x∈l,x.may=true:=by
 unfold mayL;simp
def MapD.cells(x:MapD):List Value:= [.int .i64 x.kind, .int .i64 x.key, .int .i64 x.value, .int .i64 x.max]
def mflat(l:List MapD):List Value:=l.flatMap MapD.cells
theorem mflat_length(l:List MapD):(mflat l).length=l.length*4:=by
 induction l with
 |nil=>rfl
 |cons x l ih=>simp only [mflat,List.flatMap_cons,List.length_append,MapD.cells,List.length_cons,List.length_nil] at*;omega
theorem mflat_get(l:List MapD)(i c)(hi:i<l.length)(hc:c<4):(mflat l)[i*4+c]? =some (l[i].cells[c]'(by simpa [MapD.cells] using hc)):=by
 induction l generalizing i with
 |nil=>simp at hi
 |cons x l ih=>
  simp only [mflat,List.flatMap_cons]
  cases i with
  |zero=>
   rw [List.getElem?_append_left (by simp [MapD.cells];omega)]
   simp only [Nat.zero_mul,Nat.zero_add,List.getElem_cons_zero]
   exact List.getElem?_eq_getElem _
  |succ i=>
   rw [List.getElem?_append_right (by simp [MapD.cells];omega)]
   have:=ih i (by simpa using hi)
   simp only [mflat] at this
   rw [show (i+1)*4+c-x.cells.length=i*4+c by simp [MapD.cells];omega,this]
   simp
theorem mflat_one(l):∀u∈mflat l,u.oneCell'=true:=fun v hv=>by
 obtain ⟨x,_,hx⟩:=List.mem_flatMap.1 hv
 simp [MapD.cells] at hx
 rcases hx with rfl|rfl|rfl|rfl<;>simp [Value.oneCell']
theorem map_cells{w:World}{g off l}(h:CellsAt w g off (mflat l)){k}{x:MapD}(hr:l[k]? =some x):
  w.cell? ⟨g,off+k*4,none⟩=some (.int .i64 x.kind)∧w.cell? ⟨g,off+k*4+1,none⟩=some (.int .i64 x.key)∧w.cell? ⟨g,off+k*4+2,none⟩=some (.int .i64 x.value)∧w.cell? ⟨g,off+k*4+3,none⟩=some (.int .i64 x.max):=by
 obtain ⟨hk,hx⟩:=List.getElem?_eq_some_iff.1 hr
 have c0:=h (k*4+0) _ (mflat_get l k 0 hk (by omega))
 have c1:=h (k*4+1) _ (mflat_get l k 1 hk (by omega))
 have c2:=h (k*4+2) _ (mflat_get l k 2 hk (by omega))
 have c3:=h (k*4+3) _ (mflat_get l k 3 hk (by omega))
 rw [hx] at c0 c1 c2 c3
 exact ⟨c0,c1,c2,c3⟩
def mbase(i:Nat):Int:=1048576+(i:Int)*65536
def MapD.reg(x:MapD)(i:Nat):Reg:=⟨mbase i,List.replicate (x.value*x.max).toNat 0,true⟩
def mregsFrom:Nat→List MapD→List Reg
 |_, []=> []
 |i,x::l=>x.reg i::mregsFrom (i+1) l
def mregs(l:List MapD):List Reg:=mregsFrom 0 l
theorem mregsFrom_length:∀(l:List MapD) (i:Nat),(mregsFrom i l).length=l.length
 | [],_=>rfl
 |_::l,i=>by simp [mregsFrom,mregsFrom_length l]
theorem mregsFrom_get:∀(l:List MapD) (i k:Nat),(mregsFrom i l)[k]? =(l[k]?).map (fun x=>x.reg (i+k))
 | [],_,_=>by simp [mregsFrom]
 |x::l,i,0=>by simp [mregsFrom]
 |x::l,i,k+1=>by
  simp only [mregsFrom,List.getElem?_cons_succ,mregsFrom_get l (i+1) k]
  rw [show i+1+k=i+(k+1) by omega]
theorem mregs_length(l:List MapD):(mregs l).length=l.length:=mregsFrom_length l 0
theorem mregs_get(l:List MapD)(k:Nat):(mregs l)[k]? =(l[k]?).map (fun x=>x.reg k):=by
 unfold mregs;rw [mregsFrom_get,Nat.zero_add]
structure Tab where
 d:MapD
 ks:List (List UInt8)
def arrKeys(n:Nat):List (List UInt8):=(List.range n).map (leBytes 4)
structure Tab.ok(t:Tab):Prop where
 may:t.d.may=true
 len:(t.ks.length:Int)=t.d.max
 arr:t.d.kind=1→t.ks=arrKeys t.ks.length
 hash:t.d.kind=2→∀k∈t.ks,k= []∨(k.length:Int)=t.d.key
theorem Tab.ok.kinds{t:Tab}(h:t.ok):t.d.kind=1∨t.d.kind=2:=by
 have:=(MapD.may_iff _).1 h.may
 omega
theorem Tab.ok.key1{t:Tab}(h:t.ok)(h1:t.d.kind=1):t.d.key=4:=by
 have:=(MapD.may_iff _).1 h.may
 omega
theorem Tab.ok.bounds{t:Tab}(h:t.ok):1≤t.d.key∧t.d.key≤8∧1≤t.d.value∧t.d.value≤64∧1≤t.d.max∧t.d.max≤16∧1≤t.ks.length∧t.ks.length≤16:=by
 have:=(MapD.may_iff _).1 h.may
 have:=h.len
 omega
def Tab.find(t:Tab)(key:List UInt8):Option Nat:=t.ks.findIdx? (·==key)
def Tab.lay(t:Tab)(p:Nat)(key:List UInt8):Tab:=⟨t.d,t.ks.set p key⟩
def Tab.new(d:MapD):Tab:=⟨d,if d.kind=1 then arrKeys d.max.toNat else List.replicate d.max.toNat []⟩
theorem find_some{t:Tab}{key p}(h:t.find key=some p):p<t.ks.length∧t.ks[p]? =some key:=by
 unfold Tab.find at h
 rw [List.findIdx?_eq_some_iff_getElem] at h
 obtain ⟨h1,h2,_⟩:=h
 exact ⟨h1,by rw [List.getElem?_eq_getElem h1];simpa using h2⟩
theorem find_none{t:Tab}{key}:t.find key=none↔∀k∈t.ks,k≠key:=by
 unfold Tab.find
 rw [List.findIdx?_eq_none_iff]
 simp
theorem arr_inj{a b}(ha:a<4294967296)(hb:b<4294967296)(h:leBytes 4 a=leBytes 4 b):a=b:=by
 have h1:=leNum_leBytes 4 a
 have h2:=leNum_leBytes 4 b
 rw [h,h2] at h1
 omega
theorem find_arr{t:Tab}(ht:t.ok)(h1:t.d.kind=1)(key:List UInt8)(hk:key.length=4):t.find key=if leNum key<t.ks.length then some (leNum key) else none:=by
 have hb:=ht.bounds
 have hka:=ht.arr h1
 have hval:leBytes 4 (leNum key)=key:=by have:=leBytes_leNum key;rwa [hk] at this
 have hlt:leNum key<4294967296:=by have:=leNum_lt key;rw [hk] at this;simpa using this
 have hget:∀j (hj:j<t.ks.length),t.ks[j]=leBytes 4 j:=fun j hj=>by
  have:t.ks[j]? =(arrKeys t.ks.length)[j]? :=by rw [←hka]
  rw [List.getElem?_eq_getElem hj] at this
  simp [arrKeys,hj] at this
  exact this
 by_cases h:leNum key<t.ks.length
 ·rw [if_pos h]
  unfold Tab.find
  rw [List.findIdx?_eq_some_iff_getElem]
  refine ⟨h,?_,fun j hj=> ?_⟩
  ·rw [hget _ h,hval];simp
  ·rw [hget _ (by omega)]
   intro he
   simp at he
   have:=arr_inj (a:=j) (b:=leNum key) (by omega) hlt (he.trans hval.symm)
   omega
 ·rw [if_neg h]
  rw [find_none]
  intro k hkm he
  obtain ⟨j,hj,rfl⟩:=List.getElem_of_mem hkm
  rw [hget j hj] at he
  have:=arr_inj (a:=j) (b:=leNum key) (by omega) hlt (he.trans hval.symm)
  omega
theorem Tab.new_ok{d:MapD}(h:d.may=true):(Tab.new d).ok:=by
 have hm:=(MapD.may_iff _).1 h
 refine ⟨h,?_,?_,?_⟩
 ·unfold Tab.new
  split<;>simp [arrKeys]<;>omega
 ·intro h1
  have h1:d.kind=1:=h1
  simp [Tab.new,h1,arrKeys]
 ·intro h2 k hk
  have h2:d.kind=2:=h2
  simp [Tab.new,h2] at hk
  exact .inl hk.2
theorem Tab.lay_ok{t:Tab}(h:t.ok){p}{key:List UInt8}(h2:t.d.kind=2)(hk:key= []∨(key.length:Int)=t.d.key):(t.lay p key).ok:=by
 refine ⟨h.may,by simpa [Tab.lay] using h.len,fun h1=> ?_,fun _ k hkm=> ?_⟩
 ·have h1:t.d.kind=1:=h1
  omega
 ·rcases List.mem_or_eq_of_mem_set hkm with hm|rfl
  ·exact h.hash h2 k hm
  ·exact hk
def mhas(S:List Tab)(i:Int)(key:List UInt8):Option Tab:=
 if 0≤i then (match S[i.toNat]? with|some t=>if (key.length:Int)=t.d.key then some t else none|none=>none) else none
theorem mhas_some{S i}{key:List UInt8}{t:Tab}(h:mhas S i key=some t):∃k:Nat,i=k∧S[k]? =some t∧(key.length:Int)=t.d.key:=by
 unfold mhas at h
 split at h
 ·obtain ⟨k,rfl⟩:=Int.eq_ofNat_of_zero_le (show 0≤i by assumption)
  refine ⟨k,rfl,?_⟩
  rw [Int.toNat_natCast] at h
  split at h
  ·split at h
   ·obtain rfl:=Option.some.inj h
    exact ⟨by assumption,by assumption⟩
   ·cases h
  ·cases h
 ·cases h
theorem mhas_of{S:List Tab}{k:Nat}{key:List UInt8}{t:Tab}(h:S[k]? =some t)(hk:(key.length:Int)=t.d.key):mhas S k key=some t:=by
 unfold mhas
 rw [if_pos (by omega),Int.toNat_natCast,h]
 simp [hk]
def mplace(i p:Nat)(t:Tab):Int:=mbase i+(p:Int)*t.d.value
def mlookup(S:List Tab)(i:Int)(key:List UInt8):Int:=
 match mhas S i key with
 |none=>0
 |some t=>match t.find key with
  |none=>0
  |some p=>mplace i.toNat p t
def mupdate(S:List Tab)(m:List Reg)(i:Int)(key val:List UInt8):(List Tab×List Reg)×Int:=
 match mhas S i key with
 |none=>((S,m), -22)
 |some t=>if (val.length:Int)=t.d.value then
   match t.find key with
   |some p=>((S,mput m (mplace i.toNat p t) val),0)
   |none=>if t.d.kind=1 then ((S,m), -2) else
    match t.find [] with
    |none=>((S,m), -7)
    |some p=>((S.set i.toNat (t.lay p key),mput m (mplace i.toNat p t) val),0)
  else ((S,m), -22)
def mdelete(S:List Tab)(i:Int)(key:List UInt8):List Tab×Int:=
 match mhas S i key with
 |none=>(S, -22)
 |some t=>if t.d.kind=1 then (S, -22) else
  match t.find key with
  |none=>(S, -2)
  |some p=>(S.set i.toNat (t.lay p []),0)
theorem spot_of{m}(h:WF m){j}{r:Reg}(hr:m[j]? =some r){addr n}(h1:1≤n)(hh:r.has addr n=true):spot m addr n=some j:=by
 obtain ⟨hj,hje⟩:=List.getElem?_eq_some_iff.1 hr
 unfold spot
 rw [List.findIdx?_eq_some_iff_getElem]
 refine ⟨hj,by rw [hje];exact hh,fun t ht he=> ?_⟩
 have hp:=List.pairwise_iff_getElem.1 h.apart t j (by omega) hj ht
 rw [hje] at hp
 have a:=(Reg.has_iff _ _ _).1 hh
 have b:=(Reg.has_iff _ _ _).1 he
 unfold Reg.len at hp
 omega
theorem put_nil(r:Reg)(addr):r.put addr []=r:=by
 unfold Reg.put
 simp
theorem mput_nil(m addr):mput m addr []=m:=by
 unfold mput
 split
 ·rfl
 ·rename_i i _
  apply List.ext_getElem?
  intro j
  rw [List.getElem?_modify]
  split
  ·subst_vars
   cases hm:m[j]? <;>simp [put_nil]
  ·cases hm:m[j]? <;>simp
theorem mput_at{m:List Reg}(h:WF m){j}{r:Reg}(hr:m[j]? =some r){addr}{bs:List UInt8}(h0:r.base≤addr)(h1:addr+bs.length≤r.base+(r.data.length:Int)):mput m addr bs=m.modify j (·.put addr bs):=by
 cases bs with
 |nil=>
  rw [mput_nil]
  apply List.ext_getElem?
  intro t
  rw [List.getElem?_modify]
  split
  ·subst_vars
   cases hm:m[t]? <;>simp [put_nil]
  ·cases hm:m[t]? <;>simp
 |cons b bs=>
  unfold mput
  rw [spot_of h hr (by simp;omega) ((Reg.has_iff _ _ _).2 ⟨h0,h1⟩)]
theorem put_length(r:Reg)(addr)(bs:List UInt8)(h0:r.base≤addr)(h1:addr+bs.length≤r.base+(r.data.length:Int)):(r.put addr bs).data.length=r.data.length:=by
 unfold Reg.put
 simp
 omega
theorem WF.mput{m:List Reg}(h:WF m){j:Nat}{r:Reg}(hr:m[j]? =some r){addr:Int}{bs:List UInt8}(h0:r.base≤addr)(h1:addr+bs.length≤r.base+(r.data.length:Int)):WF (mput m addr bs):=by
 rw [mput_at h hr h0 h1]
 refine h.same (by simp) (fun i hi hi'=> ?_)
 rw [List.getElem_modify]
 obtain ⟨hj,hje⟩:=List.getElem?_eq_some_iff.1 hr
 split
 ·subst_vars
  exact ⟨rfl,put_length _ _ _ h0 h1⟩
 ·exact ⟨rfl,rfl⟩
theorem mput_get{m}(h:WF m){j}{r:Reg}(hr:m[j]? =some r){addr}{bs:List UInt8}(h0:r.base≤addr)(h1:addr+bs.length≤r.base+(r.data.length:Int))(i:Nat):(mput m addr bs)[i]? =if i=j then some (r.put addr bs) else m[i]? :=by
 rw [mput_at h hr h0 h1,List.getElem?_modify]
 by_cases hij:i=j
 ·subst hij
  simp [hr]
 ·rw [if_neg hij]
  have hji:¬j=i:=fun e=>hij e.symm
  cases hm:m[i]? <;>simp [hji]
theorem put_snoc(r:Reg)(addr)(bs:List UInt8)(b)(h0:r.base≤addr)(h1:addr+bs.length+1≤r.base+(r.data.length:Int)):(r.put addr bs).put (addr+bs.length) [b]=r.put addr (bs++ [b]):=by
 obtain ⟨f,hf⟩:∃f:Nat,(addr-r.base).toNat=f:=⟨_,rfl⟩
 have hf2:f+bs.length+1≤r.data.length:=by omega
 have e:(addr+bs.length-r.base).toNat=f+bs.length:=by omega
 unfold Reg.put
 simp only [hf,e]
 congr 1
 have l1:(r.data.take f).length=f:=by simp;omega
 have l2:(r.data.take f++bs).length=f+bs.length:=by simp [l1]
 rw [List.take_append_of_le_length (by rw [l2];exact Nat.le_refl _),List.take_of_length_le (by rw [l2];exact Nat.le_refl _)]
 simp only [List.length_append,List.length_cons,List.length_nil]
 rw [List.drop_append,l2,List.drop_of_length_le (by rw [l2];omega),List.nil_append,List.drop_drop]
 rw [show f+bs.length+(f+bs.length+(0+1)-(f+bs.length))=f+(bs.length+(0+1)) by omega]
 simp [List.append_assoc]
theorem leBytes_one(b:UInt8):leBytes 1 b.toNat= [b]:=by
 simp [leBytes]
theorem mput_step{m:List Reg}(h:WF m){j:Nat}{r:Reg}(hr:m[j]? =some r)(hfree:r.free=true){addr:Int}{bs:List UInt8}{k:Nat}{b:UInt8}(hb:bs[k]? =some b)(h0:r.base≤addr)(h1:addr+bs.length≤r.base+(r.data.length:Int)):
  mwrite (mput m addr (bs.take k)) (addr+k) 1 b.toNat=(mput m addr (bs.take (k+1)),0):=by
 obtain ⟨hk,hbe⟩:=List.getElem?_eq_some_iff.1 hb
 have hlen:(bs.take k).length=k:=by simp;omega
 have g1:addr+(bs.take k).length≤r.base+(r.data.length:Int):=by rw [hlen];omega
 have hw:=h.mput hr h0 g1
 have hget:=mput_get h hr h0 g1
 have hr2:(mput m addr (bs.take k))[j]? =some (r.put addr (bs.take k)):=by rw [hget];simp
 have hl2:=put_length r addr (bs.take k) h0 g1
 have hb2:(r.put addr (bs.take k)).base=r.base:=rfl
 have hs:=spot_of hw hr2 (addr:=addr+k) (n:=1) (by omega) ((Reg.has_iff _ _ _).2 (by rw [hl2,hb2];omega))
 unfold mwrite
 rw [if_pos (by rfl),hs]
 simp only [hr2]
 have hfr:(r.put addr (bs.take k)).free=true:=hfree
 simp only [Option.map_some,Option.getD_some,hfr,if_true]
 have e1:leBytes (1:Int).toNat b.toNat= [b]:=leBytes_one b
 rw [e1]
 congr 1
 have hw2:mput (mput m addr (bs.take k)) (addr+k) [b]=_:=mput_at hw hr2 (by rw [hb2];omega) (by rw [hl2,hb2];simp;omega)
 rw [hw2]
 have hsn:=put_snoc r addr (bs.take k) b h0 (by rw [hlen];omega)
 rw [hlen] at hsn
 have htk:bs.take (k+1)=bs.take k++ [b]:=by rw [List.take_succ_eq_append_getElem hk,hbe]
 rw [htk]
 apply List.ext_getElem?
 intro i
 rw [List.getElem?_modify,hget,mput_get h hr h0 (by rw [←htk];simp;omega)]
 by_cases hij:i=j
 ·subst hij
  simp [hsn]
 ·rw [if_neg hij,if_neg hij]
  have hji:¬j=i:=fun e=>hij e.symm
  cases hm:m[i]? <;>simp [hji]
def HoldsM(S:List Tab)(m:List Reg):Prop:=∀i t,S[i]? =some t→∃(j:Nat) (r:Reg),m[j]? =some r∧r.base=mbase i∧(r.data.length:Int)=t.d.value*t.d.max∧r.free=true
theorem HoldsM.mput{S:List Tab}{m:List Reg}(h:HoldsM S m)(hw:WF m){j:Nat}{r:Reg}(hr:m[j]? =some r){addr:Int}{bs:List UInt8}(h0:r.base≤addr)(h1:addr+bs.length≤r.base+(r.data.length:Int)):HoldsM S (mput m addr bs):=by
 intro i t hi
 obtain ⟨j2,r2,a,b,c,d⟩:=h i t hi
 by_cases e:j2=j
 ·subst e
  rw [hr] at a
  obtain rfl:=Option.some.inj a
  exact ⟨j2,r.put addr bs,by rw [mput_get hw hr h0 h1,if_pos rfl],b,by rw [put_length _ _ _ h0 h1];exact c,d⟩
 ·exact ⟨j2,r2,by rw [mput_get hw hr h0 h1,if_neg e];exact a,b,c,d⟩
theorem HoldsM.set{S:List Tab}{m}(h:HoldsM S m){i}{t t':Tab}(hi:S[i]? =some t)(hd:t'.d=t.d):HoldsM (S.set i t') m:=by
 intro k u hu
 rw [List.getElem?_set] at hu
 split at hu
 ·subst_vars
  split at hu
  ·obtain rfl:=Option.some.inj hu
   rw [hd]
   exact h _ t hi
  ·cases hu
 ·exact h k u hu
theorem HoldsM.place{S m}(h:HoldsM S m){i p}{t:Tab}(hi:S[i]? =some t)(hok:t.ok)(hp:p<t.ks.length):
  ∃(j:Nat) (r:Reg),m[j]? =some r∧r.base≤mplace i p t∧mplace i p t+t.d.value≤r.base+(r.data.length:Int)∧r.free=true∧r.base=mbase i∧(r.data.length:Int)=t.d.value*t.d.max:=by
 obtain ⟨j,r,a,b,c,d⟩:=h i t hi
 have hb:=hok.bounds
 have hl:=hok.len
 have e0:0≤(p:Int)*t.d.value:=Int.mul_nonneg (by omega) (by omega)
 have e1:((p:Int)+1)*t.d.value≤t.d.max*t.d.value:=Int.mul_le_mul_of_nonneg_right (by omega) (by omega)
 rw [Int.add_mul,Int.one_mul,Int.mul_comm t.d.max] at e1
 refine ⟨j,r,a,?_,?_,d,b,c⟩<;>(unfold mplace;rw [b];omega)
theorem mplace_bounds{i p}{t:Tab}(hok:t.ok)(hp:p<t.ks.length)(hi:i<4):1048576≤mplace i p t∧mplace i p t+t.d.value≤1048576+(i:Int)*65536+1024∧0≤(p:Int)*t.d.value∧(p:Int)*t.d.value≤1024:=by
 have hb:=hok.bounds
 have hl:=hok.len
 have e0:0≤(p:Int)*t.d.value:=Int.mul_nonneg (by omega) (by omega)
 have e1:((p:Int)+1)*t.d.value≤t.d.max*t.d.value:=Int.mul_le_mul_of_nonneg_right (by omega) (by omega)
 rw [Int.add_mul,Int.one_mul] at e1
 have e2:t.d.max*t.d.value≤16*64:=Int.mul_le_mul (by omega) (by omega) (by omega) (by omega)
 unfold mplace mbase
 omega
structure HTab where
 t:Tab
 h:Nat
 cap:Nat
def HTab.cell(x:HTab):Value:=if x.t.d.kind=1 then .iface 148 (.int .i64 x.t.d.max) else .iface 152 (.slice (some ⟨x.h,0,none⟩) x.t.ks.length x.cap)
def strs(ks:List (List UInt8)):List Value:=ks.map fun k=> .string ⟨k.toArray⟩
theorem strs_get(ks:List (List UInt8))(p:Nat):(strs ks)[p]? =(ks[p]?).map fun k=> .string ⟨k.toArray⟩:=by simp [strs]
theorem strs_length(ks:List (List UInt8)):(strs ks).length=ks.length:=by simp [strs]
theorem strs_one(ks:List (List UInt8)):∀u∈strs ks,u.oneCell'=true:=fun v hv=>by
 obtain ⟨k,_,rfl⟩:=List.mem_map.1 hv
 rfl
structure HTab.here(w:World)(x:HTab):Prop where
 keys:CellsAt w x.h 0 (strs x.t.ks)
 opened:Open w x.h 0 x.t.ks.length
 cap:x.t.ks.length≤x.cap
theorem HTab.here.lt{w:World}{x:HTab}(h:x.here w)(h1:1≤x.t.ks.length):x.h<w.heap.size:=
 World.block_lt_of_cell? w ⟨x.h,0+0,none⟩ (h.keys 0 _ (List.getElem?_eq_getElem (by rw [strs_length];exact h1)))
theorem HTab.here.fr{S w w'}{x:HTab}(h:x.here w)(hf:Fr S w w')(hn:¬S x.h)(h1:1≤x.t.ks.length):x.here w':=
 ⟨hf.cells h.keys hn,hf.opened (h.lt h1) h.opened hn,h.cap⟩
def TabsAt(w:World)(lv tv:Value)(l:List HTab)(A:Nat→Prop):Prop:=
 (l= []∧∃a c a' c',lv= .slice a 0 c∧tv= .slice a' 0 c')∨
 ∃gl cl gt ct,lv= .slice (some ⟨gl,0,none⟩) l.length cl∧tv= .slice (some ⟨gt,0,none⟩) l.length ct∧CellsAt w gl 0 (mflat (l.map (·.t.d)))∧CellsAt w gt 0 (l.map HTab.cell)∧A gl∧A gt
structure MapsL(w:World)(b mb:Nat)(l:List HTab)(A H:Nat→Prop):Prop where
 made:w.cell? ⟨b,0,none⟩=some (.bool true)
 mem:w.cell? ⟨b,3,none⟩=some (.pointer (some ⟨mb,0,none⟩))
 list:∃lv tv,w.cell? ⟨b,1,none⟩=some lv∧w.cell? ⟨b,2,none⟩=some tv∧TabsAt w lv tv l A
 ok:∀x∈l,x.t.ok
 here:∀x∈l,x.t.d.kind=2→x.here w∧H x.h
 apart:l.Pairwise fun x y=>x.t.d.kind=2→y.t.d.kind=2→x.h≠y.h
 own:A b
 few:l.length≤4
 AH:∀k,A k→¬H k
def MapsAt(w:World)(b mb:Nat)(S:List Tab)(A H:Nat→Prop):Prop:=∃l,l.map (·.t)=S∧MapsL w b mb l A H
theorem TabsAt.fr{A T w w' lv tv l}(h:TabsAt w lv tv l A)(hf:Fr T w w')(hn:∀k,A k→¬T k):TabsAt w' lv tv l A:=by
 rcases h with h|⟨gl,cl,gt,ct,rfl,rfl,h1,h2,h3,h4⟩
 ·exact .inl h
 ·exact .inr ⟨gl,cl,gt,ct,rfl,rfl,hf.cells h1 (hn _ h3),hf.cells h2 (hn _ h4),h3,h4⟩
theorem MapsL.fr{A H T w w' b mb l}(h:MapsL w b mb l A H)(hf:Fr T w w')(hA:∀k,A k→¬T k)(hH:∀k,H k→¬T k):MapsL w' b mb l A H where
 made:=hf.cell h.made (hA _ h.own)
 mem:=hf.cell h.mem (hA _ h.own)
 list:=by
  obtain ⟨lv,tv,a,b,c⟩:=h.list
  exact ⟨lv,tv,hf.cell a (hA _ h.own),hf.cell b (hA _ h.own),c.fr hf hA⟩
 ok:=h.ok
 here:=fun x hx h2=>⟨(h.here x hx h2).1.fr hf (hH _ (h.here x hx h2).2) (by have:=(h.ok x hx).bounds;omega),(h.here x hx h2).2⟩
 apart:=h.apart
 own:=h.own
 few:=h.few
 AH:=h.AH
theorem MapsAt.fr{A H T w w' b mb S}(h:MapsAt w b mb S A H)(hf:Fr T w w')(hA:∀k,A k→¬T k)(hH:∀k,H k→¬T k):MapsAt w' b mb S A H:=by
 obtain ⟨l,e,h⟩:=h
 exact ⟨l,e,h.fr hf hA hH⟩
theorem MapsAt.no{A H w w' b mb S}(h:MapsAt w b mb S A H)(hf:Fr No w w'):MapsAt w' b mb S A H:=h.fr hf (fun _ _=>id) (fun _ _=>id)
theorem MapsAt.ok{A H w b mb}{S:List Tab}(h:MapsAt w b mb S A H):(∀t∈S,t.ok)∧S.length≤4:=by
 obtain ⟨l,rfl,h⟩:=h
 refine ⟨fun t ht=> ?_,by simpa using h.few⟩
 obtain ⟨x,hx,rfl⟩:=List.mem_map.1 ht
 exact h.ok x hx
theorem MapsL.at{A H}{w:World}{b mb}{l:List HTab}(h:MapsL w b mb l A H){i}{x:HTab}(hx:l[i]? =some x):
  ∃gl cl gt ct,w.cell? ⟨b,1,none⟩=some (.slice (some ⟨gl,0,none⟩) l.length cl)∧w.cell? ⟨b,2,none⟩=some (.slice (some ⟨gt,0,none⟩) l.length ct)∧i<l.length∧A gl∧A gt∧
   w.cell? ⟨gl,i*4,none⟩=some (.int .i64 x.t.d.kind)∧w.cell? ⟨gl,i*4+1,none⟩=some (.int .i64 x.t.d.key)∧w.cell? ⟨gl,i*4+2,none⟩=some (.int .i64 x.t.d.value)∧w.cell? ⟨gl,i*4+3,none⟩=some (.int .i64 x.t.d.max)∧
   w.cell? ⟨gt,i,none⟩=some x.cell:=by
 obtain ⟨hi,hxe⟩:=List.getElem?_eq_some_iff.1 hx
 obtain ⟨lv,tv,a,c,⟨rfl,_⟩|⟨gl,cl,gt,ct,rfl,rfl,h1,h2,h3,h4⟩⟩:=h.list
 ·simp at hi
 ·have hm:=map_cells h1 (k:=i) (x:=x.t.d) (by simp [hx])
  simp only [Nat.zero_add] at hm
  have hc:=h2 i x.cell (by simp [hx])
  rw [Nat.zero_add] at hc
  exact ⟨gl,cl,gt,ct,a,c,hi,h3,h4,hm.1,hm.2.1,hm.2.2.1,hm.2.2.2,hc⟩
theorem MapsL.len{A H}{w:World}{b mb}{l:List HTab}(h:MapsL w b mb l A H):∃a c,w.cell? ⟨b,1,none⟩=some (.slice a l.length c):=by
 obtain ⟨lv,tv,a,c,⟨rfl,x,y,_,_,rfl,_⟩|⟨gl,cl,gt,ct,rfl,rfl,h1,h2,h3,h4⟩⟩:=h.list
 ·exact ⟨_,_,a⟩
 ·exact ⟨_,_,a⟩
def HTab.lay(x:HTab)(p:Nat)(key:List UInt8):HTab:={x with t:=x.t.lay p key}
theorem MapsL.lay{A H}{w:World}{b mb}{l:List HTab}(h:MapsL w b mb l A H){i}{x:HTab}(hx:l[i]? =some x)(h2:x.t.d.kind=2){p}(hp:p<x.t.ks.length){key:List UInt8}(hk:key= []∨(key.length:Int)=x.t.d.key):
  MapsL (w.setCell ⟨x.h,p,none⟩ (.string ⟨key.toArray⟩)) b mb (l.set i (x.lay p key)) A H∧Fr H w (w.setCell ⟨x.h,p,none⟩ (.string ⟨key.toArray⟩)):=by
 obtain ⟨hi,hxe⟩:=List.getElem?_eq_some_iff.1 hx
 have hxm:x∈l:=List.mem_of_getElem? hx
 obtain ⟨hh,hH⟩:=h.here x hxm h2
 have hf:Fr (fun k=>k=x.h) w (w.setCell ⟨x.h,p,none⟩ (.string ⟨key.toArray⟩)):=(Fr.refl (fun k=>k=x.h) w).setCell (p:=⟨x.h,p,none⟩) (.inr rfl) _
 have hA:∀k,A k→¬k=x.h:=fun k hk e=>h.AH k hk (e ▸ hH)
 have hold:w.cell? ⟨x.h,p,none⟩=some (.string ⟨x.t.ks[p].toArray⟩):=by
  have:=hh.keys p (.string ⟨x.t.ks[p].toArray⟩) (by rw [strs_get,List.getElem?_eq_getElem hp];rfl)
  rwa [Nat.zero_add] at this
 have hmem:∀y∈l.set i (x.lay p key),y=x.lay p key∨∃j,∃hj:j<l.length,j≠i∧y=l[j]:=by
  intro y hy
  obtain ⟨j,hj,rfl⟩:=List.getElem_of_mem hy
  rw [List.getElem_set]
  split
  ·exact .inl rfl
  ·rename_i hne;exact .inr ⟨j,by simpa using hj,fun e=>hne e.symm,rfl⟩
 have hmap:∀{α:Type} (f:HTab→α),f (x.lay p key)=f x→(l.set i (x.lay p key)).map f=l.map f:=by
  intro α f hfx
  apply List.ext_getElem?
  intro j
  rw [List.getElem?_map,List.getElem?_map,List.getElem?_set]
  split
  ·subst_vars
   rw [hx]
   simp [hi,hfx]
  ·rfl
 have hcell:(x.lay p key).cell=x.cell:=by unfold HTab.cell HTab.lay Tab.lay;simp
 refine ⟨⟨hf.cell h.made (hA _ h.own),hf.cell h.mem (hA _ h.own),?_,?_,?_,?_,h.own,by simpa using h.few,h.AH⟩,hf.mono (fun k _ hk=>hk ▸ hH)⟩
 ·obtain ⟨lv,tv,a,c,ht⟩:=h.list
  refine ⟨lv,tv,hf.cell a (hA _ h.own),hf.cell c (hA _ h.own),?_⟩
  rcases ht with ⟨rfl,_⟩|⟨gl,cl,gt,ct,rfl,rfl,h1,h3,h4,h5⟩
  ·simp at hi
  ·refine .inr ⟨gl,cl,gt,ct,by simp,by simp,?_,?_,h4,h5⟩
   ·rw [hmap (fun y=>y.t.d) rfl]
    exact hf.cells h1 (hA _ h4)
   ·rw [hmap HTab.cell hcell]
    exact hf.cells h3 (hA _ h5)
 ·intro y hy
  rcases hmem y hy with rfl|⟨j,hj,_,rfl⟩
  ·exact Tab.lay_ok (h.ok x hxm) h2 hk
  ·exact h.ok _ (List.getElem_mem hj)
 ·intro y hy hy2
  rcases hmem y hy with rfl|⟨j,hj,hne,rfl⟩
  ·refine ⟨⟨fun q v hq=> ?_,fun q hq=> ?_,by simpa [HTab.lay,Tab.lay] using hh.cap⟩,hH⟩
   ·rw [Nat.zero_add]
    show (w.setCell ⟨x.h,p,none⟩ (.string ⟨key.toArray⟩)).cell? ⟨x.h,q,none⟩=some v
    rw [strs_get] at hq
    simp only [HTab.lay,Tab.lay,List.getElem?_set] at hq
    by_cases hpq:p=q
    ·subst hpq
     simp [hp] at hq
     subst hq
     exact World.cell?_setCell_same _ _ _ (by rw [hold])
    ·rw [if_neg hpq] at hq
     rw [World.cell?_setCell_other _ _ _ _ (by simp<;>omega)]
     have:=hh.keys q v (by rw [strs_get];exact hq)
     rwa [Nat.zero_add] at this
   ·rw [World.frozen?_setCell]
    exact hh.opened q (by simpa [HTab.lay,Tab.lay] using hq)
  ·obtain ⟨g1,g2⟩:=h.here _ (List.getElem_mem hj) hy2
   refine ⟨g1.fr hf (fun e=> ?_) (by have:=(h.ok _ (List.getElem_mem hj)).bounds;omega),g2⟩
   have hpw:=List.pairwise_iff_getElem.1 h.apart
   rcases Nat.lt_or_gt_of_ne hne with hlt|hlt
   ·exact hpw j i hj hi hlt hy2 (by rw [hxe];exact h2) (by rw [hxe,e])
   ·exact hpw i j hi hj hlt (by rw [hxe];exact h2) hy2 (by rw [hxe,e])
 ·rw [List.pairwise_iff_getElem]
  intro a c ha hc hac hka hkc
  have hpw:=List.pairwise_iff_getElem.1 h.apart a c (by simpa using ha) (by simpa using hc) hac
  have same:∀n (hn:n<(l.set i (x.lay p key)).length),(l.set i (x.lay p key))[n].h=(l[n]'(by simpa using hn)).h∧(l.set i (x.lay p key))[n].t.d=(l[n]'(by simpa using hn)).t.d:=fun n hn=>by
   rw [List.getElem_set]
   split
   ·subst_vars;exact ⟨rfl,rfl⟩
   ·exact ⟨rfl,rfl⟩
  rw [(same a ha).2] at hka
  rw [(same c hc).2] at hkc
  rw [(same a ha).1,(same c hc).1]
  exact hpw hka hkc
def optI:Option Nat→Int
 |none=> -1
 |some p=>p
theorem mlen_any(b n cap a)(w:World)(h:w.cell? ⟨b,1,none⟩=some (.slice a n cap)):
  Calls prog 99 #[.pointer (some ⟨b,0,none⟩)] w fun e w'=>e= .returned (.int .i64 n)∧w=w':=by
 go_enter func99,ntmps99
 go_wp2_with fail
 go_ret
 exact ⟨rfl,rfl⟩
theorem u64_nat(n:Nat)(h:n≤18446744073709551615):IntKind.u64.wrap (n:Int)=n:=IntWalk.u64_in _ (by omega)
theorem mbase_any(i:Nat)(w:World)(hi:i≤1000):Calls prog 57 #[.int .i64 i] w fun e w'=>e= .returned (.int .u64 (mbase i))∧w=w':=by
 have e1:IntKind.u64.wrap (i:Int)=i:=u64_nat i (by omega)
 have e2:IntKind.u64.wrap ((i:Int)*65536)=(i:Int)*65536:=IntWalk.u64_in _ (by omega)
 have e3:IntKind.u64.wrap (1048576+(i:Int)*65536)=1048576+(i:Int)*65536:=IntWalk.u64_in _ (by omega)
 go_enter func57,ntmps57
 go_wp2_with fail
 go_ret
 exact ⟨by unfold mbase;rfl,rfl⟩
theorem bytes_eql(a b:List UInt8):((⟨a.toArray⟩:ByteArray).toList==(⟨b.toArray⟩:ByteArray).toList)=decide (a=b):=by
 rw [Bool.eq_iff_iff]
 simp [ByteArray.toList_eq]
theorem index_walk(g n cap)(ks:List (List UInt8))(key:List UInt8)(w:World)(hn:ks.length=n)(hm:n≤1000000)(hc:CellsAt w g 0 (strs ks)):
  Calls prog 164 #[.slice (some ⟨g,0,none⟩) n cap, .string ⟨key.toArray⟩] w fun e w'=>e= .returned (.int .i64 (optI (ks.findIdx? (·==key))))∧w=w':=by
 obtain ⟨K,hK⟩:∃K:ByteArray,K=⟨key.toArray⟩:=⟨_,rfl⟩
 rw [←hK]
 have HK:=Lib.hid hK
 have HN:=Lib.hid hn
 have HC:=Lib.hid hc
 clear hK hn hc
 go_enter func164,ntmps164
 go_wp2_with fail
 go_loop [5,8] (fun _ i=>∃k:Nat,k≤n∧i= .int .i64 k∧Hid (∀(j:Nat) x,j<k→ks[j]? =some x→x≠key)) (fun _ i=>n-(intOf i).toNat)
 case atStart=>exact ⟨0,Nat.zero_le _,rfl,fun j _ h=>absurd h (Nat.not_lt_zero _)⟩
 case round=>
  obtain ⟨k,hk,rfl,HJ⟩:=hrel
  by_cases hlt:k<n
  ·obtain ⟨x,hx⟩:∃x,ks[k]? =some x:=⟨ks[k]'(by rw [HN.out];exact hlt),List.getElem?_eq_getElem _⟩
   have hcell:w.cell? ⟨g,k,none⟩=some (.string ⟨x.toArray⟩):=by
    have:=HC.out k (.string ⟨x.toArray⟩) (by rw [strs_get,hx];rfl)
    rwa [Nat.zero_add] at this
   have heq:((K:ByteArray).toList==(⟨x.toArray⟩:ByteArray).toList)=decide (key=x):=by rw [HK.out];exact bytes_eql _ _
   obtain ⟨X,hX⟩:∃X:ByteArray,X=⟨x.toArray⟩:=⟨_,rfl⟩
   rw [←hX] at hcell heq
   have HX:=Lib.hid hx
   clear hX hx
   by_cases he:key=x
   ·have q:((K:ByteArray).toList==X.toList)=true:=by rw [heq];simpa using he
    have HF:Hid (ks.findIdx? (·==key)=some k):=Lib.hid (by
     rw [List.findIdx?_eq_some_iff_getElem]
     refine ⟨by rw [HN.out];exact hlt,?_,fun j hj=> ?_⟩
     ·have:=HX.out
      rw [List.getElem?_eq_getElem (by rw [HN.out];exact hlt)] at this
      rw [Option.some.inj this,he];simp
     ·have:=HJ.out j _ hj (List.getElem?_eq_getElem (by rw [HN.out];omega))
      simpa using this)
    clear heq he
    go_wp2_with fail
    go_ret
    exact ⟨by rw [HF.out];rfl,rfl⟩
   ·have q:((K:ByteArray).toList==X.toList)=false:=by rw [heq];simpa using he
    have HJ2:Hid (∀(j:Nat) y,j<k+1→ks[j]? =some y→y≠key):=fun j y hj hy=>by
     by_cases e:j=k
     ·subst e
      rw [HX.out] at hy
      obtain rfl:=Option.some.inj hy
      exact fun e=>he e.symm
     ·exact HJ.out j y (by omega) hy
    clear heq he
    go_wp2_with fail
    go_round
    case rel=>exact ⟨k+1,by omega,by go_num,HJ2⟩
    case measure=>simp [intOf]<;>omega
  ·obtain rfl:k=n:=by omega
   have HF:Hid (ks.findIdx? (·==key)=none):=Lib.hid (by
    rw [List.findIdx?_eq_none_iff]
    intro x hx
    obtain ⟨j,hj,rfl⟩:=List.getElem_of_mem hx
    have:=HJ.out j _ (by rw [←HN.out];exact hj) (List.getElem?_eq_getElem hj)
    simpa using this)
   go_wp2_with fail
   go_ret
   exact ⟨by rw [HF.out];rfl,rfl⟩
theorem hfind_walk(v K r w)(hi:Calls prog 164 #[v, .string K] w fun e w'=>e= .returned (.int .i64 r)∧w=w'):
  Calls prog 159 #[v, .string K] w fun e w'=>e= .returned (.int .i64 r)∧w=w':=by
 have HI:=Lib.hid hi
 clear hi
 go_enter func159,ntmps159
 go_wp2_with (go_at_call 164;(with_reducible refine (HI.out).mono ?_);rintro e w' ⟨rfl,rfl⟩)
 go_ret
 exact ⟨rfl,rfl⟩
theorem hfind_any{w}{x:HTab}(hh:x.here w)(h16:x.t.ks.length≤1000000)(key:List UInt8):
  Calls prog 159 #[.slice (some ⟨x.h,0,none⟩) x.t.ks.length x.cap, .string ⟨key.toArray⟩] w fun e w'=>e= .returned (.int .i64 (optI (x.t.find key)))∧w=w':=
 hfind_walk _ _ _ w (index_walk x.h x.t.ks.length x.cap x.t.ks key w rfl h16 hh.keys)
def arrI(v n:Nat):Int:=if v<n then v else-1
theorem afind_walk(n v:Nat)(K:ByteArray)(w:World)(hn:n≤1000000)(hv:v<18446744073709551616)(hnum:Calls prog 73 #[.string K] w fun e w'=>e= .returned (.int .u64 v)∧w=w'):
  Calls prog 182 #[.int .i64 n, .string K] w fun e w'=>e= .returned (.int .i64 (arrI v n))∧w=w':=by
 have e1:IntKind.u64.wrap (n:Int)=n:=u64_nat n (by omega)
 have HN:=Lib.hid hnum
 have HV:=Lib.hid hv
 clear hnum hv
 by_cases h:v<n
 ·have e2:IntKind.i64.wrap (v:Int)=v:=IntWalk.i64_in _ (by omega)
  go_enter func182,ntmps182
  go_wp2_with (go_at_call 73;(with_reducible refine (HN.out).mono ?_);rintro e w' ⟨rfl,rfl⟩)
  go_ret
  exact ⟨by unfold arrI;rw [if_pos h];rfl,rfl⟩
 ·go_enter func182,ntmps182
  go_wp2_with (go_at_call 73;(with_reducible refine (HN.out).mono ?_);rintro e w' ⟨rfl,rfl⟩)
  go_ret
  exact ⟨by unfold arrI;rw [if_neg h];rfl,rfl⟩
theorem afind_any{w}{t:Tab}(ht:t.ok)(h1:t.d.kind=1)(key:List UInt8)(hk:key.length=4):
  Calls prog 182 #[.int .i64 t.d.max, .string ⟨key.toArray⟩] w fun e w'=>e= .returned (.int .i64 (optI (t.find key)))∧w=w':=by
 have hb:=ht.bounds
 have hl:=ht.len
 have hlt:leNum key<2^32:=by have:=leNum_lt key;rw [hk] at this;exact this
 rw [←hl]
 refine (afind_walk t.ks.length (leNum key) ⟨key.toArray⟩ w (by omega) (by omega) ((num_any _ w (by show key.length≤maxLen;unfold maxLen;omega)).mono ?_)).mono ?_
 ·rintro e w' ⟨rfl,rfl⟩
  refine ⟨?_,rfl⟩
  show Ending.returned (.int .u64 ((leNum (key.take 8):Nat):Int))=_
  rw [List.take_of_length_le (by omega)]
 ·rintro e w' ⟨rfl,rfl⟩
  refine ⟨?_,rfl⟩
  rw [find_arr ht h1 key hk]
  unfold arrI
  split<;>rfl
theorem alay_any{w}{t:Tab}(ht:t.ok)(h1:t.d.kind=1)(key:List UInt8)(hk:key.length=4):
  Calls prog 183 #[.int .i64 t.d.max, .string ⟨key.toArray⟩] w fun e w'=>e= .returned (.tuple #[.int .i64 (optI (t.find key)), .int .i64 (-2)])∧w=w':=by
 have HF:=Lib.hid (afind_any (w:=w) ht h1 key hk)
 go_enter func183,ntmps183
 go_wp2_with (go_at_call 182;(with_reducible refine (HF.out).mono ?_);rintro e w' ⟨rfl,rfl⟩)
 go_ret2
 exact ⟨rfl,rfl⟩
end Go.Proofs.YtfmcmfiebehhiaaGreatDoor

