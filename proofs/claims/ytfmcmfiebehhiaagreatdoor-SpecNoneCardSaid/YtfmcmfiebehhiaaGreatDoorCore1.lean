/- The lemmas that no function of the program bears: numbers as bytes, worlds that part in a set of blocks alone. No conditions. package codec, plain: the machine's instructions as bytes. packages alu .. -/
import Derived.Test.YtfmcmfiebehhiaaGreatDoorRows
import Derived.WalkKit
import Derived.WalkSpells
import Derived.WalkLawsBesides
import Derived.Deep.QuietTactic
import Derived.BigQuiet
import Derived.Lib.Hide
set_option linter.all false
set_option linter.unusedVariables false
set_option linter.unusedSimpArgs false
namespace Go.Proofs.YtfmcmfiebehhiaaGreatDoor
open Go.Proofs.Tryz
open Go.RowKit
def leNum:List UInt8→Nat
 | []=>0
 |b::r=>b.toNat+256*leNum r
theorem leNum_lt(l:List UInt8):leNum l<256^l.length:=by
 induction l with
 |nil=>simp [leNum]
 |cons b r ih=>
  have:=b.toNat_lt
  simp only [leNum,List.length_cons,Nat.pow_succ]
  have:leNum r+1≤256^r.length:=ih
  omega
theorem leNum_snoc(l:List UInt8)(b:UInt8):leNum (l++ [b])=leNum l+b.toNat*256^l.length:=by
 induction l with
 |nil=>simp [leNum]
 |cons c r ih=>
  simp only [List.cons_append,leNum,ih,List.length_cons,Nat.pow_succ]
  rw [Nat.mul_add,←Nat.add_assoc]
  congr 1
  rw [←Nat.mul_assoc,Nat.mul_comm 256,Nat.mul_assoc,Nat.mul_comm 256]
theorem leNum_take(l:List UInt8)(k)(h:k<l.length):leNum (l.take (k+1))=leNum (l.take k)+l[k].toNat*256^k:=by
 rw [List.take_succ_eq_append_getElem h,leNum_snoc,List.length_take,Nat.min_eq_left (by omega)]
def leBytes:Nat→Nat→List UInt8
 |0,_=> []
 |n+1,v=>UInt8.ofNat v::leBytes n (v/256)
@[simp] theorem leBytes_length(n v):(leBytes n v).length=n:=by
 induction n generalizing v with
 |zero=>rfl
 |succ n ih=>simp [leBytes,ih]
theorem leBytes_snoc(n v):leBytes (n+1) v=leBytes n v++ [UInt8.ofNat (v/256^n)]:=by
 induction n generalizing v with
 |zero=>simp [leBytes]
 |succ n ih=>
  rw [leBytes,ih (v/256)]
  simp only [leBytes,List.cons_append,Nat.pow_succ,Nat.div_div_eq_div_mul,Nat.mul_comm 256]
theorem leNum_leBytes(n v):leNum (leBytes n v)=v%256^n:=by
 induction n generalizing v with
 |zero=>simp [leBytes,leNum,Nat.mod_one]
 |succ n ih=>
  have h2:(UInt8.ofNat v).toNat=v%256:=by simp
  simp only [leBytes,leNum,ih,Nat.pow_succ,h2]
  rw [Nat.mul_comm (256^n) 256,Nat.mod_mul]
theorem leBytes_leNum(l:List UInt8):leBytes l.length (leNum l)=l:=by
 induction l with
 |nil=>rfl
 |cons b r ih=>
  have hb:=b.toNat_lt
  simp only [List.length_cons,leBytes,leNum]
  rw [show (b.toNat+256*leNum r)/256=leNum r by omega,ih]
  congr 1
  apply UInt8.toNat.inj
  simp
theorem or_high(a b k:Nat)(ha:a<256^k)(hb:b<256)(hk:k<8):
  bits .or .u64 (a:Int) (IntKind.u64.wrap (IntKind.u64.wrap (b:Int)*2^(8*k)))=((a+b*256^k:Nat):Int):=by
 have e:(256:Nat)^k=2^(8*k):=by rw [Nat.pow_mul]
 have hle:(2:Nat)^(8*k)*256≤2^64:=by
  rw [show (256:Nat)=2^8 by decide,←Nat.pow_add];exact Nat.pow_le_pow_right (by decide) (by omega)
 have hbk:b*2^(8*k)<2^64:=Nat.lt_of_lt_of_le ((Nat.mul_lt_mul_right (Nat.two_pow_pos _)).2 hb) (by rw [Nat.mul_comm];exact hle)
 have ha':a<2^64:=by
  rw [e] at ha
  have:(2:Nat)^(8*k)*1≤2^(8*k)*256:=Nat.mul_le_mul_left _ (by decide)
  omega
 have hu:∀n:Nat,n<2^64→IntKind.u64.wrap (n:Int)=n:=fun n h=>IntWalk.u64_in _ (by omega)
 rw [hu b (by omega),show ((b:Int)*2^(8*k))=((b*2^(8*k):Nat):Int) by push_cast;rfl,hu _ hbk]
 rw [(bits_nat .u64 64 (by decide) (fun n h0 h1=>IntWalk.u64_in _ (by omega)) a (b*2^(8*k)) ha' hbk).2]
 rw [e,Nat.or_comm,←Nat.shiftLeft_eq,←Nat.shiftLeft_add_eq_or_of_lt (by rw [←e];exact ha),Nat.add_comm]
theorem bytesToString_fold(l:List UInt8)(s:ByteArray):(l.map fun b=>(b.toNat:Int)).foldl (fun r n=>r.push (UInt8.ofNat n.toNat)) s=⟨s.data++l.toArray⟩:=by
 induction l generalizing s with
 |nil=>simp
 |cons b r ih=>
  simp only [List.map_cons,List.foldl_cons,ih,Int.toNat_natCast]
  congr 1
  apply Array.ext'
  simp [ByteArray.push]
def u8s(l:List UInt8):List Value:=l.map fun b=> .int .u8 (b.toNat:Int)
@[simp] theorem u8s_length(l:List UInt8):(u8s l).length=l.length:=by simp [u8s]
theorem u8s_get(l:List UInt8)(j)(h:j<l.length):(u8s l)[j]'(by simpa using h)= .int .u8 (l[j].toNat:Int):=by simp [u8s]
def CellsAt(w:World)(b off:Nat)(vs:List Value):Prop:=∀j v,vs[j]? =some v→w.cell? ⟨b,off+j,none⟩=some v
theorem addr_add(b off j):(⟨b,off,none⟩:Addr).add j=⟨b,off+j,none⟩:=by unfold Addr.add;split<;>simp_all
theorem CellsAt.run{P w b off}{vs:List Value}(h:CellsAt w b off vs):(loadCells ⟨b,off,none⟩ vs.length).run P w= .ok vs.toArray w:=
 run_loadCells_list w _ vs fun j v hj=>by rw [addr_add];exact h j v hj
theorem run_str_of_bytes{P:Program}(w src dst e)(hs:P.underlying src=some (.slice e))(he:P.underlying e=some (.int .u8))(hd:P.underlying dst=some .string)(b off cap:Nat)(l:List UInt8)(len)(hl:l.length=len)(hc:CellsAt w b off (u8s l)):
  (convert src dst (.slice (some ⟨b,off,none⟩) len cap)).run P w= .ok (.string ⟨l.toArray⟩) w:=by
 subst hl
 have h1:=hc.run (P:=P)
 rw [u8s_length] at h1
 have h:=run_bytesToString (P:=P) w ⟨b,off,none⟩ l.length cap (l.map fun b=>(b.toNat:Int)) (by rw [h1];simp [u8s,Function.comp_def])
 rw [bytesToString_fold] at h
 rw [run_convert_bytes_string w src dst e (some ⟨b,off,none⟩) l.length cap hs he hd,h]
 simp [ByteArray.empty,ByteArray.emptyWithCapacity]
 rfl
theorem CellsAt.new(w:World)(vs:List Value)(t):CellsAt (w.alloc (.cells vs.toArray t)) w.heap.size 0 vs:=by
 intro j v h
 rw [Nat.zero_add,World.cell?_alloc_new]
 simpa using h
theorem u8s_one(l):∀v∈u8s l,v.oneCell'=true:=by
 intro v hv
 obtain ⟨b,_,rfl⟩:=List.mem_map.1 hv
 rfl
theorem run_copy_str{P:Program}(w:World)(dT sT ty elem)(b o dCap:Nat)(s:List UInt8)(k)(hk:s.length=k)(hu:P.underlying dT=some (.slice elem))(hs:(P.info? elem).map (·.size)=some 1)(hc:∀j,j<k→(w.cell? ⟨b,o+j,none⟩).isSome=true)(hf:∀j,j<k→w.frozen? ⟨b,o+j,none⟩=false):
  (Builtin.copy_ #[dT,sT] ty #[.slice (some ⟨b,o,none⟩) k dCap, .string ⟨s.toArray⟩]).run P w= .ok (goInt k) (w.setCells b o (u8s s)):=by
 subst hk
 have hst:=run_storeCells_cells (P:=P) b o (u8s s) 0 w (by simpa using hc) (by simpa using hf) (u8s_one s)
 have hsz:(⟨s.toArray⟩:ByteArray).size=s.length:=by simp [ByteArray.size]
 cases hq:P.info? elem with
 |none=>simp [hq] at hs
 |some i=>
  have hi:i.size=1:=by simpa [hq] using hs
  have htk:List.take s.length (List.map (fun b=>Value.int .u8 (b.toNat:Int)) s)=u8s s:=by
   rw [List.take_of_length_le (by simp)];rfl
  rw [Nat.add_zero] at hst
  simp [Builtin.copy_,run_underlying hu,Builtin.lenOf,Builtin.firstCells,sizeOf,typeInfo,hq,hi,hsz,htk,hst]
theorem splice_get{α:Type}(d bs:List α)(f:Nat)(hf:f+bs.length≤d.length)(j:Nat):
  (d.take f++bs++d.drop (f+bs.length))[j]? =if j<f then d[j]? else if j<f+bs.length then bs[j-f]? else d[j]? :=by
 have hl:(d.take f).length=f:=by rw [List.length_take];omega
 by_cases h1:j<f
 ·rw [if_pos h1,List.append_assoc,List.getElem?_append_left (by omega),List.getElem?_take,if_pos h1]
 ·rw [if_neg h1,List.append_assoc,List.getElem?_append_right (by omega),hl]
  by_cases h2:j<f+bs.length
  ·rw [if_pos h2,List.getElem?_append_left (by omega)]
  ·rw [if_neg h2,List.getElem?_append_right (by omega),List.getElem?_drop]
   congr 1
   omega
theorem heap_setCells_other(w:World)(b k)(hk:k≠b):∀(vs:List Value) (o:Nat),(w.setCells b o vs).heap[k]? =w.heap[k]?
 | [],_=>rfl
 |v::r,o=>by
  rw [World.setCells,heap_setCells_other (w.setCell ⟨b,o,none⟩ v) b k hk r (o+1),Below.heap_setCell _ _ _ _ hk]
theorem size_setCells(b):∀(vs:List Value) (o:Nat) (w:World),(w.setCells b o vs).heap.size=w.heap.size
 | [],_,_=>rfl
 |v::r,o,w=>by rw [World.setCells,size_setCells b r];simp
theorem rest_setCells(b):∀(vs:List Value) (o:Nat) (w:World),(w.setCells b o vs).os=w.os∧(w.setCells b o vs).tape=w.tape∧(w.setCells b o vs).output=w.output
 | [],_,_=>⟨rfl,rfl,rfl⟩
 |v::r,o,w=>by rw [World.setCells];exact rest_setCells b r (o+1) _
theorem wp_world{P}{c:Code}{Q a W}(R:World→Prop)(hR:R W)(h:∀W1,R W1→c.wp P Q a W1):c.wp P Q a W:=h W hR
structure XI where
 kind:Int
 alu:Int
 cond:Int
 size:Int
 wide:Bool
 short:Bool
 dst:Int
 src:Int
 disp:Int
 rel:Int
 imm:Int
deriving DecidableEq
def XI.zero:XI:=⟨0,0,0,0,false,false,0,0,0,0,0⟩
structure XI.ok(x:XI):Prop where
 kind: -9223372036854775808≤x.kind∧x.kind≤9223372036854775807
 alu: -9223372036854775808≤x.alu∧x.alu≤9223372036854775807
 cond: -9223372036854775808≤x.cond∧x.cond≤9223372036854775807
 size: -9223372036854775808≤x.size∧x.size≤9223372036854775807
 dst: -9223372036854775808≤x.dst∧x.dst≤9223372036854775807
 src: -9223372036854775808≤x.src∧x.src≤9223372036854775807
 disp: -2147483648≤x.disp∧x.disp≤2147483647
 rel: -2147483648≤x.rel∧x.rel≤2147483647
 imm: -9223372036854775808≤x.imm∧x.imm≤9223372036854775807
def XI.agg(x:XI):Value:= .agg #[.int .i64 x.kind, .int .i64 x.alu, .int .i64 x.cond, .int .i64 x.size, .bool x.wide, .bool x.short, .int .i64 x.dst, .int .i64 x.src, .int .i32 x.disp, .int .i32 x.rel, .int .i64 x.imm]
structure FI where
 op:List UInt8
 behind:Nat
 digit:Nat
 alu:Nat
 imm:Nat
 wide:Bool
 narrow:Bool
deriving DecidableEq
def FI.none:FI:=⟨[],0,0,0,0,false,false⟩
def formsL:List FI:= [
 ⟨[],0,0,0,0,false,false⟩,
 ⟨[0x89],1,0,0,0,false,false⟩,
 ⟨[0xc7],3,0,0,4,true,false⟩,
 ⟨[0xb8],4,0,0,8,true,false⟩,
 ⟨[0x01],1,0,1,0,false,false⟩,
 ⟨[0x81],3,0,1,4,false,false⟩,
 ⟨[0x85],1,0,0,0,false,false⟩,
 ⟨[0xf7],3,3,0,0,false,false⟩,
 ⟨[0xf7],3,4,0,0,false,false⟩,
 ⟨[0xf7],3,6,0,0,false,false⟩,
 ⟨[0x0f,0xaf],2,0,0,0,false,false⟩,
 ⟨[0xc1],3,0,2,1,false,false⟩,
 ⟨[0xd3],3,0,2,0,false,false⟩,
 ⟨[],5,0,0,0,false,false⟩,
 ⟨[],6,0,0,0,false,false⟩,
 ⟨[],7,0,0,0,false,true⟩,
 ⟨[],7,0,0,0,false,true⟩,
 ⟨[0x50],4,0,0,0,false,true⟩,
 ⟨[0x58],4,0,0,0,false,true⟩,
 ⟨[0xc3],0,0,0,0,false,true⟩,
 ⟨[0xe8],7,0,0,0,false,true⟩,
 ⟨[0x0f,0xae,0xe8],0,0,0,0,false,true⟩]
def formM(k:Int):FI:=formsL.getD k.toNat FI.none
def condsL:List Int:= [2,3,4,5,6,7,12,13,14,15]
def loadsM(n:Int):List UInt8:=if n=1 then [0x0f,0xb6] else if n=2 then [0x0f,0xb7] else if n=4∨n=8 then [0x8b] else []
def storesM(n:Int):List UInt8:=if n=1 then [0x88] else if n=2∨n=4∨n=8 then [0x89] else []
def byteM(n:Int):UInt8:=UInt8.ofNat (n%256).toNat
def usedM(x:XI)(f:FI):XI:=
 {kind:=x.kind,wide:=x.wide,dst:=if f.behind=1∨f.behind=2∨f.behind=3∨f.behind=4∨f.behind=5∨f.behind=6 then x.dst else 0,src:=if f.behind=1∨f.behind=2∨f.behind=5∨f.behind=6 then x.src else 0,disp:=if f.behind=5∨f.behind=6 then x.disp else 0,size:=if f.behind=5∨f.behind=6 then x.size else 0,rel:=if f.behind=7 then x.rel else 0,short:=if f.behind=7∧x.kind≠20 then x.short else false,cond:=if x.kind=16 then x.cond else 0,alu:=if f.alu≠0 then x.alu else 0,imm:=if 0<f.imm then x.imm else 0}
def numberM(x:XI)(f:FI):Bool:=
 if f.imm=1 then decide (0≤x.imm)&&(decide (x.imm<32)||x.wide&&decide (x.imm<64))
 else if f.imm=4 then decide (-2147483648≤x.imm)&&decide (x.imm≤2147483647)
 else true
def validM(x:XI):Bool:=
 if x.kind<1∨22≤x.kind then false
 else
  let f:=formM x.kind
  if x≠usedM x f∨x.dst<0∨15<x.dst∨x.src<0∨15<x.src∨(f.wide=true∧x.wide=false)∨(f.narrow=true∧x.wide=true)∨numberM x f=false then false
  else if f.alu=1 then decide (x.alu=1)||decide (x.alu=0)||decide (4≤x.alu)&&decide (x.alu≤7)
  else if f.alu=2 then decide (x.alu=4)||decide (x.alu=5)||decide (x.alu=7)
  else if f.behind=5∨f.behind=6 then !(loadsM x.size).isEmpty&&(x.wide==decide (x.size=8))
  else if x.short then decide (-128≤x.rel)&&decide (x.rel≤127)&&(decide (x.kind=15)||condsL.contains x.cond)
  else decide (x.kind≠16)||condsL.contains x.cond
def opcodeM(x:XI):List UInt8:=
 if x.kind=4 then [byteM (8*x.alu+1)]
 else if x.kind=13 then loadsM x.size
 else if x.kind=14 then storesM x.size
 else if x.kind=15 then (if x.short then [0xeb] else [0xe9])
 else if x.kind=16 then (if x.short then [byteM (0x70+x.cond)] else [0x0f,byteM (0x80+x.cond)])
 else if x.kind=3 then [byteM (0xb8+x.dst%8)]
 else if x.kind=17 then [byteM (0x50+x.dst%8)]
 else if x.kind=18 then [byteM (0x58+x.dst%8)]
 else (formM x.kind).op
def rexM(x:XI)(mid fin:Int):List UInt8:=
 let b:=0x40+4*(mid/8)+fin/8+(if x.wide then 8 else 0)
 if b=0x40∧¬(x.kind=14∧x.size=1) then [] else [byteM b]
def modrmM(mode mid fin:Int):List UInt8:= [byteM (64*mode+8*(mid%8)+fin%8)]
def bytesI(v:Int)(n:Nat):List UInt8:=leBytes n (v%18446744073709551616).toNat
def operandsM(x:XI)(f:FI):List UInt8×Int×Int:=
 if f.behind=1 then (modrmM 3 x.src x.dst,x.src,x.dst)
 else if f.behind=2 then (modrmM 3 x.dst x.src,x.dst,x.src)
 else if f.behind=3 then (modrmM 3 (if f.alu≠0 then x.alu else f.digit) x.dst,0,x.dst)
 else if f.behind=4 then ([],0,x.dst)
 else if f.behind=7 then (bytesI x.rel (if x.short then 1 else 4),0,0)
 else if f.behind=5∨f.behind=6 then
  let mid:=if f.behind=5 then x.dst else x.src
  let fin:=if f.behind=5 then x.src else x.dst
  (modrmM 2 mid fin++(if fin%8=4 then [0x24] else [])++bytesI x.disp 4,mid,fin)
 else ([],0,0)
def encodeM(x:XI):Option (List UInt8):=
 if validM x=false then none
 else
  let f:=formM x.kind
  let o:=operandsM x f
  some ((if x.kind=14∧x.size=2 then [0x66] else [])++rexM x o.2.1 o.2.2++opcodeM x++o.1++bytesI x.imm f.imm)
def takeN(s:List UInt8)(n:Nat):Nat:=leNum (s.take n)
def signI(v:Nat)(b:Nat):Int:=if v%2^b<2^(b-1) then ((v%2^b:Nat):Int) else ((v%2^b:Nat):Int)-2^b
def sizeOfM(behind op:Nat)(two half wide:Bool):Int:=
 if (behind=5∧two=true∧op=0xb6)∨(behind=6∧op=0x88) then 1
 else if (behind=5∧two=true)∨half=true then 2
 else if wide then 8 else 4
structure Cut where
 half:Bool
 high:Nat
 two:Bool
 op:Nat
 rest:List UInt8
def isRexB(b:UInt8):Bool:=decide (0x40≤b.toNat)&&decide (b.toNat<0x50)
def rexAt:List UInt8→Bool
 | []=>false
 |b::_=>isRexB b
def cutM0(s:List UInt8):Cut:=
 let half:=s.head? ==some 0x66
 let s1:=if half then s.drop 1 else s
 let isrex:=rexAt s1
 let high:=if isrex then takeN s1 1 else 0
 let s2:=if isrex then s1.drop 1 else s1
 let two:=s2.head? ==some 0x0f
 let s3:=if two then s2.drop 1 else s2
 ⟨half,high,two,takeN s3 1,s3.drop 1⟩
def guessC(c:Cut)(kind:Nat):XI:=
 let f:=formsL.getD kind FI.none
 let wide:=decide (c.high/8%2=1)
 let mid0:=c.high/4%2*8
 let fin0:=c.high%2*8
 let short:=if kind=16 then !c.two else if kind=15 then decide (c.op=0xeb) else false
 let cond:Int:=if kind=16 then (c.op%16:Nat) else 0
 let alu0:Int:=if kind=4 then (c.op/8:Nat) else 0
 if kind=21 then {XI.zero with kind:=21,wide:=wide}
 else
  let x0:XI:={XI.zero with kind:=kind,wide:=wide,short:=short,cond:=cond,alu:=alu0}
  let xr:XI×List UInt8:=
   if f.behind=4 then ({x0 with dst:=(fin0+c.op%8:Nat)},c.rest)
   else if f.behind=7 then
    let n:=if short then 1 else 4
    ({x0 with rel:=signI (takeN c.rest n) (8*n)},c.rest.drop n)
   else if f.behind=0 then (x0,c.rest)
   else
    let m:=takeN c.rest 1
    let r:=c.rest.drop 1
    let mid:=mid0+m/8%8
    let fin:=fin0+m%8
    let x1:XI:=if f.behind=3∧f.alu≠0 then {x0 with alu:=(mid%8:Nat)} else x0
    if f.behind=1 then ({x1 with dst:=(fin:Int),src:=(mid:Int)},r)
    else if f.behind=2 then ({x1 with dst:=(mid:Int),src:=(fin:Int)},r)
    else if f.behind=3 then ({x1 with dst:=(fin:Int)},r)
    else
     let r2:=if fin%8=4 then r.drop 1 else r
     ({x1 with size:=sizeOfM f.behind c.op c.two c.half wide,dst:=if f.behind=6 then (fin:Int) else (mid:Int),src:=if f.behind=6 then (mid:Int) else (fin:Int),disp:=signI (takeN r2 4) 32},r2.drop 4)
  if 0<f.imm then {xr.1 with imm:=signI (takeN xr.2 f.imm) (8*f.imm)} else xr.1
def guessM(s:List UInt8)(kind:Nat):XI:=guessC (cutM0 s) kind
def decodeFrom(s:List UInt8):List Nat→Option (XI×Nat)
 | []=>none
 |k::ks=>
  match encodeM (guessM s k) with
  |some b=>if b.isPrefixOf s then some (guessM s k,b.length) else decodeFrom s ks
  |none=>decodeFrom s ks
def kindsL:List Nat:= [1,2,3,4,5,6,7,8,9,10,11,12,13,14,15,16,17,18,19,20,21]
def decodeM(s:List UInt8):Option (XI×Nat):=decodeFrom s kindsL
structure ST where
 r:List Nat
 z:Bool
 s:Bool
 c:Bool
 o:Bool
 pc:Nat
deriving DecidableEq
def ST.zero:ST:=⟨List.replicate 16 0,false,false,false,false,0⟩
structure ST.ok(s:ST):Prop where
 len:s.r.length=16
 lt:∀v∈s.r,v<18446744073709551616
 pc:s.pc<18446744073709551616
def ST.reg(s:ST)(i:Nat):Nat:=s.r.getD i 0
def ST.set(s:ST)(i v:Nat):ST:={s with r:=s.r.set i v}
theorem ST.ok.reg{s:ST}(h:s.ok)(i):s.reg i<18446744073709551616:=by
 unfold ST.reg
 rw [List.getD_eq_getElem?_getD]
 cases e:s.r[i]? with
 |none=>simp
 |some v=>exact h.lt v (List.mem_of_getElem? e)
theorem ST.ok.set{s:ST}(h:s.ok)(i){v}(hv:v<18446744073709551616):(s.set i v).ok:=by
 refine ⟨by simp [ST.set,h.len],fun u hu=> ?_,h.pc⟩
 unfold ST.set at hu
 rcases List.mem_or_eq_of_mem_set hu with h1|h1
 ·exact h.lt u h1
 ·rw [h1];exact hv
def wordN(wide:Bool):Nat:=if wide then 18446744073709551616 else 4294967296
def bitsN(wide:Bool):Nat:=if wide then 64 else 32
def sarN(wide:Bool)(a k:Nat):Nat:=if 2*a<wordN wide then a/2^k else ((((a:Int)-(wordN wide:Int))/((2^k:Nat):Int))%(wordN wide:Int)).toNat
def doM(op:Nat)(wide:Bool)(a0 b0:Nat):Nat:=
 let W:=wordN wide
 let a:=a0%W
 let b:=b0%W
 let k:=b%bitsN wide
 if op=0x00 then (a+b)%W
 else if op=0x10 then (a+(W-b))%W
 else if op=0x20 then a*b%W
 else if op=0x30 then (if b=0 then 0 else a/b)
 else if op=0x90 then (if b=0 then a else a%b)
 else if op=0x40 then a|||b
 else if op=0x50 then a&&&b
 else if op=0xa0 then a^^^b
 else if op=0x60 then a*2^k%W
 else if op=0x70 then a/2^k
 else if op=0xc0 then sarN wide a k
 else if op=0x80 then (W-a)%W
 else if op=0xb0 then b
 else 0
theorem word_pos(wide):0<wordN wide:=by cases wide<;>decide
theorem word_le(wide):wordN wide≤18446744073709551616:=by cases wide<;>decide
def msbN(wide:Bool)(a:Nat):Bool:=decide (wordN wide≤2*a)
def doesM(alu:Int):Nat:=if alu=0 then 0x00 else if alu=1 then 0x40 else if alu=4 then 0x50 else if alu=5 then 0x10 else if alu=6 then 0xa0 else if alu=7 then 0x10 else 0
def flagsM(s:ST)(alu:Int)(wide:Bool)(a b r:Nat):ST:=
 let W:=wordN wide
 let A:=a%W
 let B:=b%W
 let R:=r%W
 {s with z:=decide (R=0),s:=msbN wide R,c:=if alu=0 then decide (R<A) else if alu=5∨alu=7 then decide (A<B) else false,o:=if alu=0 then (msbN wide A !=msbN wide R)&&(msbN wide B !=msbN wide R) else if alu=5∨alu=7 then (msbN wide A !=msbN wide B)&&(msbN wide A !=msbN wide R) else false}
def arithM(s:ST)(wide:Bool)(alu:Int)(a b:Nat):ST×Nat:=
 let r:=doM (doesM alu) wide a b
 (flagsM s alu wide a b r,r)
def shiftsM(alu:Int):Nat:=if alu=4 then 0x60 else if alu=5 then 0x70 else if alu=7 then 0xc0 else 0
def timesM(wide:Bool)(a b:Nat):Nat×Nat:=
 let W:=wordN wide
 ((a%W)*(b%W)%W,(a%W)*(b%W)/W)
def partM(wide:Bool)(high low by_:Nat):Option (Nat×Nat):=
 let W:=wordN wide
 if by_%W≤high%W then none else some (((high%W)*W+low%W)/(by_%W),((high%W)*W+low%W)%(by_%W))
def u64I(v:Int):Nat:=(v%18446744073709551616).toNat
def execM(x:XI)(s:ST):Except Int ST:=
 if validM x=false then .error 2
 else
  let d:=x.dst.toNat
  let a:=s.reg d
  let b:=if x.kind=5 then u64I x.imm else s.reg x.src.toNat
  let mov (s:ST) (v:Nat):ST:=s.set d (doM 0xb0 x.wide 0 v)
  if x.kind=1 then .ok (mov s b)
  else if x.kind=2∨x.kind=3 then .ok (mov s (u64I x.imm))
  else if x.kind=4∨x.kind=5 then
   let q:=arithM s x.wide x.alu a b
   .ok (if x.alu=7 then q.1 else mov q.1 q.2)
  else if x.kind=6 then .ok (arithM s x.wide 4 a b).1
  else if x.kind=7 then
   let q:=arithM s x.wide 5 0 a
   .ok (mov q.1 q.2)
  else if x.kind=10 then .ok (mov s (doM 0x20 x.wide a b))
  else if x.kind=8 then
   let q:=timesM x.wide (s.reg 0) a
   .ok ((s.set 0 q.1).set 2 q.2)
  else if x.kind=9 then
   match partM x.wide (s.reg 2) (s.reg 0) a with
   |none=> .error 120
   |some q=> .ok ((s.set 0 q.1).set 2 q.2)
  else if x.kind=11 then .ok (mov s (doM (shiftsM x.alu) x.wide a (u64I x.imm)))
  else if x.kind=12 then .ok (mov s (doM (shiftsM x.alu) x.wide a (s.reg 1)))
  else if x.kind=21 then .ok s
  else .error 2
def takenM(cond:Int)(s:ST):Bool:=
 if cond=2 then s.c else if cond=4 then s.z else if cond=6 then s.c||s.z else if cond=12 then s.s !=s.o else if cond=14 then s.z||(s.s !=s.o)
 else if cond=3 then !s.c else if cond=5 then !s.z else if cond=7 then !(s.c||s.z) else if cond=13 then !(s.s !=s.o) else if cond=15 then !(s.z||(s.s !=s.o))
 else false
theorem ite_lt{p:Prop}[Decidable p]{x y W:Nat}(hx:x<W)(hy:y<W):(if p then x else y)<W:=by split<;>assumption
theorem sarN_lt(wide){A}(ha:A<wordN wide)(k):sarN wide A k<wordN wide:=by
 have hW:=word_pos wide
 unfold sarN
 refine ite_lt (Nat.lt_of_le_of_lt (Nat.div_le_self _ _) ha) ?_
 have h1:=Int.emod_nonneg (((A:Int)-(wordN wide:Int))/((2^k:Nat):Int)) (show (wordN wide:Int)≠0 by omega)
 have h2:=Int.emod_lt_of_pos (((A:Int)-(wordN wide:Int))/((2^k:Nat):Int)) (show (0:Int)<(wordN wide:Int) by omega)
 omega
theorem doM_lt(op wide a b):doM op wide a b<wordN wide:=by
 have hW:=word_pos wide
 have ha:a%wordN wide<wordN wide:=Nat.mod_lt _ hW
 have hb:b%wordN wide<wordN wide:=Nat.mod_lt _ hW
 have hpow:wordN wide=2^bitsN wide:=by cases wide<;>rfl
 unfold doM
 simp only
 generalize a%wordN wide=A at*
 generalize b%wordN wide=B at*
 have h1:A|||B<wordN wide:=by rw [hpow] at*;exact Nat.or_lt_two_pow ha hb
 have h2:A^^^B<wordN wide:=by rw [hpow] at*;exact Nat.xor_lt_two_pow ha hb
 exact ite_lt (Nat.mod_lt _ hW) (ite_lt (Nat.mod_lt _ hW) (ite_lt (Nat.mod_lt _ hW) (ite_lt (ite_lt hW (Nat.lt_of_le_of_lt (Nat.div_le_self _ _) ha)) (ite_lt (ite_lt ha (Nat.lt_of_le_of_lt (Nat.mod_le _ _) ha)) (ite_lt h1 (ite_lt (Nat.lt_of_le_of_lt Nat.and_le_left ha) (ite_lt h2 (ite_lt (Nat.mod_lt _ hW) (ite_lt (Nat.lt_of_le_of_lt (Nat.div_le_self _ _) ha) (ite_lt (sarN_lt wide ha _) (ite_lt (Nat.mod_lt _ hW) (ite_lt hb hW))))))))))))
theorem u8_toNat(n:Nat)(h:n<256):(UInt8.ofNat n).toNat=n:=by simp;omega
def mrB(mode mid fin:Nat):UInt8:=UInt8.ofNat (64*mode+8*(mid%8)+fin%8)
theorem modrm_eq{mode mid fin:Nat}(h:mode<4):modrmM mode mid fin= [mrB mode mid fin]:=by
 unfold modrmM byteM mrB
 congr 2
 omega
structure MayX(y:XI)(f:FI):Prop where
 used:y=usedM y f
 dst:0≤y.dst∧y.dst≤15
 src:0≤y.src∧y.src≤15
 wide:f.wide=true→y.wide=true
 narrow:f.narrow=true→y.wide=false
 num:numberM y f=true
theorem valid_may{y:XI}(h:validM y=true):∃k:Nat,1≤k∧k<22∧y.kind=(k:Int)∧MayX y (formM y.kind):=by
 unfold validM at h
 split at h
 ·cases h
 ·rename_i hk
  simp only at h
  split at h
  ·cases h
  ·rename_i hc
   simp only [not_or] at hc
   obtain ⟨h1,h2,h3,h4,h5,h6,h7,h8⟩:=hc
   refine ⟨y.kind.toNat,by omega,by omega,by omega,⟨Classical.not_not.1 h1,by omega,by omega,fun e=> ?_,fun e=> ?_,?_⟩⟩
   ·cases hw:y.wide with
    |true=>rfl
    |false=>exact absurd ⟨e,hw⟩ h6
   ·cases hw:y.wide with
    |false=>rfl
    |true=>exact absurd ⟨e,hw⟩ h7
   ·cases hn:numberM y (formM y.kind) with
    |true=>rfl
    |false=>exact absurd hn h8
theorem enc_open{y:XI}(h:validM y=true):encodeM y=some ((if y.kind=14∧y.size=2 then [0x66] else [])++rexM y (operandsM y (formM y.kind)).2.1 (operandsM y (formM y.kind)).2.2++opcodeM y++(operandsM y (formM y.kind)).1++bytesI y.imm (formM y.kind).imm):=by
 unfold encodeM
 rw [if_neg (by rw [h];simp)]
theorem bytesI_zero(v):bytesI v 0= []:=rfl
theorem MayX.regs{y:XI}{f}(h:MayX y f):∃d s:Nat,d<16∧s<16∧y.dst=(d:Int)∧y.src=(s:Int):=
 ⟨y.dst.toNat,y.src.toNat,by have:=h.dst;omega,by have:=h.src;omega,by have:=h.dst;omega,by have:=h.src;omega⟩
theorem valid_rest{y:XI}(h:validM y=true):((formM y.kind).alu=1→∃n:Nat,n<8∧y.alu=(n:Int))∧((formM y.kind).alu=2→∃n:Nat,n<8∧y.alu=(n:Int))∧
  ((formM y.kind).alu=0→(formM y.kind).behind=5∨(formM y.kind).behind=6→(y.size=1∨y.size=2∨y.size=4∨y.size=8)∧y.wide=decide (y.size=8))∧
  ((formM y.kind).alu=0→(formM y.kind).behind≠5→(formM y.kind).behind≠6→(y.short=true→-128≤y.rel∧y.rel≤127)∧(y.kind=16→∃c:Nat,c<16∧y.cond=(c:Int))):=by
 have hcond:condsL.contains y.cond=true→∃c:Nat,c<16∧y.cond=(c:Int):=fun hc=>by
  have hm:=List.contains_iff_mem.1 hc
  refine ⟨y.cond.toNat,?_,?_⟩
  ·simp [condsL] at hm;omega
  ·simp [condsL] at hm;omega
 unfold validM at h
 split at h
 ·cases h
 ·simp only at h
  split at h
  ·cases h
  ·split at h
   ·rename_i ha
    refine ⟨fun _=> ?_,fun e=>by omega,fun e=>by omega,fun e=>by omega⟩
    simp only [Bool.or_eq_true,Bool.and_eq_true,decide_eq_true_eq] at h
    exact ⟨y.alu.toNat,by omega,by omega⟩
   ·rename_i ha1
    split at h
    ·rename_i ha2
     refine ⟨fun e=>by omega,fun _=> ?_,fun e=>by omega,fun e=>by omega⟩
     simp only [Bool.or_eq_true,decide_eq_true_eq] at h
     exact ⟨y.alu.toNat,by omega,by omega⟩
    ·rename_i ha2
     split at h
     ·rename_i hb
      refine ⟨fun e=>absurd e ha1,fun e=>absurd e ha2,fun _ _=> ?_,fun _ h5 h6=>by rcases hb with hb|hb;exact absurd hb h5;exact absurd hb h6⟩
      simp only [Bool.and_eq_true,beq_iff_eq] at h
      refine ⟨?_,h.2⟩
      by_cases z1:y.size=1
      ·exact .inl z1
      by_cases z2:y.size=2
      ·exact .inr (.inl z2)
      by_cases z4:y.size=4
      ·exact .inr (.inr (.inl z4))
      by_cases z8:y.size=8
      ·exact .inr (.inr (.inr z8))
      have:=h.1
      unfold loadsM at this
      rw [if_neg z1,if_neg z2,if_neg (fun h=>by rcases h with h|h;exact z4 h;exact z8 h)] at this
      simp at this
     ·rename_i hb
      refine ⟨fun e=>absurd e ha1,fun e=>absurd e ha2,fun _ h56=>absurd h56 hb,fun _ _ _=> ?_⟩
      split at h
      ·rename_i hs
       simp only [Bool.and_eq_true,Bool.or_eq_true,decide_eq_true_eq] at h
       exact ⟨fun _=>h.1,fun hk=>hcond (by rcases h.2 with h2|h2;omega;exact h2)⟩
      ·rename_i hs
       simp only [Bool.or_eq_true,decide_eq_true_eq] at h
       exact ⟨fun e=>absurd e hs,fun hk=>hcond (by rcases h with h2|h2;exact absurd hk h2;exact h2)⟩
theorem sign8(v): -128≤signI v 8∧signI v 8≤127:=by
 unfold signI
 simp only [show (2:Nat)^8=256 from rfl,show (2:Nat)^(8-1)=128 from rfl,show (2:Int)^8=256 from rfl]
 split<;>omega
theorem sign32(v): -2147483648≤signI v 32∧signI v 32≤2147483647:=by
 unfold signI
 simp only [show (2:Nat)^32=4294967296 from rfl,show (2:Nat)^(32-1)=2147483648 from rfl,show (2:Int)^32=4294967296 from rfl]
 split<;>omega
theorem sign64(v): -9223372036854775808≤signI v 64∧signI v 64≤9223372036854775807:=by
 unfold signI
 simp only [show (2:Nat)^64=18446744073709551616 from rfl,show (2:Nat)^(64-1)=9223372036854775808 from rfl,show (2:Int)^64=18446744073709551616 from rfl]
 split<;>omega
theorem ite_ok2{b}[Decidable b]{x y:XI×List UInt8}(hx:x.1.ok)(hy:y.1.ok):(if b then x else y).1.ok:=by split<;>assumption
theorem size_ok(a b t h w):1≤sizeOfM a b t h w∧sizeOfM a b t h w≤8:=by unfold sizeOfM;split<;>(try split)<;>(try split)<;>omega
theorem take_lt(s:List UInt8)(n)(hn:n≤8):takeN s n<18446744073709551616:=by
 unfold takeN
 have h1:=leNum_lt (s.take n)
 have h2:(s.take n).length≤8:=by rw [List.length_take];omega
 exact Nat.lt_of_lt_of_le h1 (Nat.le_trans (Nat.pow_le_pow_right (by decide) h2) (by decide))
theorem take1_lt(s:List UInt8):takeN s 1<256:=by
 unfold takeN
 have h1:=leNum_lt (s.take 1)
 have h2:(s.take 1).length≤1:=by rw [List.length_take];omega
 exact Nat.lt_of_lt_of_le h1 (Nat.le_trans (Nat.pow_le_pow_right (by decide) h2) (by decide))
theorem guess_ok{c:Cut}{k}(hk:k<22)(hh:c.high<256)(ho:c.op<256):(guessC c k).ok:=by
 have hX:∀(x:XI),x.ok→∀v:Int, -9223372036854775808≤v∧v≤9223372036854775807→({x with imm:=v}:XI).ok:=fun x hx v hv=>⟨hx.kind,hx.alu,hx.cond,hx.size,hx.dst,hx.src,hx.disp,hx.rel,hv⟩
 have hs:∀(v n:Nat),n=1∨n=4∨n=8→-9223372036854775808≤signI v (8*n)∧signI v (8*n)≤9223372036854775807:=fun v n hn=>by
  rcases hn with rfl|rfl|rfl
  ·have h:=sign8 v
   show-9223372036854775808≤signI v 8∧signI v 8≤9223372036854775807
   omega
  ·have h:=sign32 v
   show-9223372036854775808≤signI v 32∧signI v 32≤9223372036854775807
   omega
  ·exact sign64 v
 have hf:∀k:Nat,k<22→0<(formsL.getD k FI.none).imm→(formsL.getD k FI.none).imm=1∨(formsL.getD k FI.none).imm=4∨(formsL.getD k FI.none).imm=8:=by decide+kernel
 unfold guessC
 by_cases h21:k=21
 ·rw [if_pos h21]
  constructor<;>simp [XI.zero]
 ·simp only
  rw [if_neg h21]
  have hc:(if k=16 then ((c.op%16:Nat):Int) else 0)≤15∧0≤(if k=16 then ((c.op%16:Nat):Int) else 0):=by split<;>omega
  have ha:(if k=4 then ((c.op/8:Nat):Int) else 0)≤31∧0≤(if k=4 then ((c.op/8:Nat):Int) else 0):=by split<;>omega
  have hrel:∀(s:List UInt8) (b:Bool), -2147483648≤signI (takeN s (if b=true then 1 else 4)) (8*(if b=true then 1 else 4))∧signI (takeN s (if b=true then 1 else 4)) (8*(if b=true then 1 else 4))≤2147483647:=fun s b=>by
   cases b
   ·exact sign32 _
   ·have h:=sign8 (takeN s 1)
    show-2147483648≤signI (takeN s 1) 8∧signI (takeN s 1) 8≤2147483647
    omega
  have hm:=take1_lt c.rest
  generalize (if k=16 then ((c.op%16:Nat):Int) else 0)=cd at*
  generalize (if k=4 then ((c.op/8:Nat):Int) else 0)=al at*
  have base:∀(xr:XI×List UInt8),xr.1.ok→(if 0<(formsL.getD k FI.none).imm then {xr.1 with imm:=signI (takeN xr.2 (formsL.getD k FI.none).imm) (8*(formsL.getD k FI.none).imm)} else xr.1).ok:=fun xr hx=>by
   split
   ·rename_i h0
    exact hX _ hx _ (hs _ _ (hf k hk h0))
   ·exact hx
  refine base _ ?_
  refine ite_ok2 ?_ (ite_ok2 ?_ (ite_ok2 ?_ ?_))
  ·constructor<;>simp [XI.zero]<;>omega
  ·have:=hrel c.rest (if k=16 then !c.two else if k=15 then decide (c.op=235) else false)
   constructor<;>simp [XI.zero] at* <;>omega
  ·constructor<;>simp [XI.zero]<;>omega
  ·generalize takeN c.rest 1=m at*
   have hx1:∀x0:XI,x0.ok→(if (formsL.getD k FI.none).behind=3∧(formsL.getD k FI.none).alu≠0 then {x0 with alu:=(((c.high/4%2*8+m/8%8)%8:Nat):Int)} else x0:XI).ok:=fun x0 h0=>by
    split
    ·exact ⟨h0.kind,by simp only;omega,h0.cond,h0.size,h0.dst,h0.src,h0.disp,h0.rel,h0.imm⟩
    ·exact h0
   have hb:=hx1 {XI.zero with kind:=(k:Int),wide:=decide (c.high/8%2=1),short:=if k=16 then !c.two else if k=15 then decide (c.op=235) else false,cond:=cd,alu:=al} (by constructor<;>simp [XI.zero]<;>omega)
   refine ite_ok2 ?_ (ite_ok2 ?_ (ite_ok2 ?_ ?_))
   ·exact ⟨hb.kind,hb.alu,hb.cond,hb.size,by simp only;omega,by simp only;omega,hb.disp,hb.rel,hb.imm⟩
   ·exact ⟨hb.kind,hb.alu,hb.cond,hb.size,by simp only;omega,by simp only;omega,hb.disp,hb.rel,hb.imm⟩
   ·exact ⟨hb.kind,hb.alu,hb.cond,hb.size,by simp only;omega,hb.src,hb.disp,hb.rel,hb.imm⟩
   ·have hz:=size_ok (formsL.getD k FI.none).behind c.op c.two c.half (decide (c.high/8%2=1))
    exact ⟨hb.kind,hb.alu,hb.cond,by simp only;omega,by simp only;split<;>omega,by simp only;split<;>omega,sign32 _,hb.rel,hb.imm⟩
theorem cut_lt(s):(cutM0 s).high<256∧(cutM0 s).op<256:=by
 unfold cutM0
 simp only
 refine ⟨?_,take1_lt _⟩
 have key:∀(b:Bool) (s:List UInt8),(if b=true then takeN s 1 else 0)<256:=fun b s=>by
  split
  ·exact take1_lt _
  ·omega
 exact key _ _
theorem guessM_ok(s){k}(hk:k<22):(guessM s k).ok:=guess_ok hk (cut_lt s).1 (cut_lt s).2
theorem decodeFrom_is{s}{y:XI}{n}:∀ks:List Nat,(∀k∈ks,k<22)→decodeFrom s ks=some (y,n)→y.ok∧∃t,encodeM y=some t∧t<+:s∧n=t.length
 | [],_,h=>by simp [decodeFrom] at h
 |k::ks,hks,h=>by
  have ih:=decodeFrom_is (s:=s) (y:=y) (n:=n) ks (fun j hj=>hks j (List.mem_cons_of_mem _ hj))
  rw [decodeFrom] at h
  cases hb:encodeM (guessM s k) with
  |none=>rw [hb] at h;exact ih h
  |some b=>
   rw [hb] at h
   simp only at h
   split at h
   ·rename_i hp
    simp only [Option.some.injEq,Prod.mk.injEq] at h
    obtain ⟨rfl,rfl⟩:=h
    exact ⟨guessM_ok s (hks k List.mem_cons_self),b,hb,List.isPrefixOf_iff_prefix.1 hp,rfl⟩
   ·exact ih h
theorem kinds_lt:∀k∈kindsL,k<22:=by decide
theorem decode_is{s}{y:XI}{n}(h:decodeM s=some (y,n)):y.ok∧∃t,encodeM y=some t∧t<+:s∧n=t.length:=decodeFrom_is kindsL kinds_lt h
theorem sign8'(v): -2147483648≤signI v 8∧signI v 8≤2147483647:=by have:=sign8 v;omega
theorem sign8''(v): -9223372036854775808≤signI v 8∧signI v 8≤9223372036854775807:=by have:=sign8 v;omega
theorem sign32'(v): -9223372036854775808≤signI v 32∧signI v 32≤9223372036854775807:=by have:=sign32 v;omega
end Go.Proofs.YtfmcmfiebehhiaaGreatDoor

