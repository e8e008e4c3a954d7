/- maps: slices.Clone of keys and of maps; slices.ContainsFunc of maps; may. maps: Regions. strings.Repeat of a byte 0; maps: Regions at any maps. maps: are the maps' regions in a memory? maps: hold. -/
import Derived.Test.YtfmcmfiebehhiaaGreatDoorCore10
import Derived.Test.YtfmcmfiebehhiaaGreatDoorCore7
import Derived.Test.YtfmcmfiebehhiaaGreatDoorCoreS
import Derived.Test.YtfmcmfiebehhiaaGreatDoorCore8
set_option linter.all false
set_option linter.unusedVariables false
set_option linter.unusedSimpArgs false
set_option maxRecDepth 100000
set_option maxHeartbeats 1000000
namespace Go.Proofs.YtfmcmfiebehhiaaGreatDoor
open Go.Proofs.Tryz
open Go.RowKit
theorem Tryz.info_cstrs:(prog.info? 9).map (fun i=>(i.zero,i.size,i.bytes))=some (some (.string ⟨#[]⟩),1,16):=by kernel_rfl
theorem slice_ne_strs(w:World)(a:Addr)(n c:Nat):(binOp .eql 152 (.slice (some a) n c) (.slice none 0 0)).run prog w= .ok (.bool false) w:=Lib.run_eql_slice_nil w 152 9 (some a) n c 0 0 underlying152
theorem clone_strs(g off n c:Nat)(vs:List Value)(w:World)(hl:vs.length=n*1)(h1:1≤n)(hm:n≤1000000)(hc:CellsAt w g off vs)(hone:∀u∈vs,u.oneCell'=true):
  Calls prog 187 #[.slice (some ⟨g,off,none⟩) n c] w (ClonePost n vs w 1):=by
 have HC:=Lib.hid hc
 have HL:=Lib.hid hl
 clear hc hl
 have kn:=fun w=>slice_ne_strs w ⟨g,off,none⟩ n c
 obtain ⟨i0,hi,hz0,hz1,hz2⟩:=info_parts Tryz.info_cstrs
 have hown:(w.alloc (.cells #[] 9)).ownsRow w.heap.size 9 1 (.slice (some ⟨w.heap.size,0,none⟩) 0 0) 0 []:=World.ownsRow_made w #[] 0 (Nat.le_refl _) (by unfold maxLen;omega) rfl
 have hnews:∀j u,vs[j]? =some u→(w.alloc (.cells #[] 9)).cell? ((⟨g,off,none⟩:Addr).add j)=some u:=fun j u hj=>by
  rw [addr_add];exact ((Fr.refl No w).alloc _).cell (HC.out j u hj) id
 go_enter func187,ntmps187
 go_wp2_with (at_builtin;refine wpList_append_lies _ rfl _ _ 152 rfl w.heap.size 9 i0 _ 1 16 underlying152 hi hz0 hz1 hz2 rfl (by decide) _ 0 [] rfl hown ⟨g,off,none⟩ n c vs rfl HL.out hnews hone (by omega) (by unfold maxLen;omega) (by omega) (by simp) _ rfl ?_;intro gg cap2 w1 hown2 hgrow hat hlt2)
 go_ret
 rw [Nat.zero_add,List.nil_append] at hown2
 have:=clone_post (v:= .slice none 0 0) hown2 hgrow hlt2
 simpa using this
theorem Tryz.info_cmaps:(prog.info? 103).map (fun i=>(i.zero,i.size,i.bytes))=some (some (.agg #[.int .i64 0, .int .i64 0, .int .i64 0, .int .i64 0]),4,32):=by kernel_rfl
theorem slice_ne_maps(w a n c):(binOp .eql 27 (.slice (some a) n c) (.slice none 0 0)).run prog w= .ok (.bool false) w:=Lib.run_eql_slice_nil w 27 103 (some a) n c 0 0 underlying27
theorem slice_eq_maps(w n c):(binOp .eql 27 (.slice none n c) (.slice none 0 0)).run prog w= .ok (.bool true) w:=Lib.run_eql_slice_nil w 27 103 none n c 0 0 underlying27
theorem clone_maps(g off n c)(vs:List Value)(w:World)(hl:vs.length=n*4)(h1:1≤n)(hm:n≤1000000)(hc:CellsAt w g off vs)(hone:∀u∈vs,u.oneCell'=true):
  Calls prog 30 #[.slice (some ⟨g,off,none⟩) n c] w (ClonePost n vs w 4):=by
 have HC:=Lib.hid hc
 have HL:=Lib.hid hl
 clear hc hl
 have kn:=fun w=>slice_ne_maps w ⟨g,off,none⟩ n c
 obtain ⟨i0,hi,hz0,hz1,hz2⟩:=info_parts Tryz.info_cmaps
 have hown:(w.alloc (.cells #[] 103)).ownsRow w.heap.size 103 4 (.slice (some ⟨w.heap.size,0,none⟩) 0 0) 0 []:=World.ownsRow_made w #[] 0 (Nat.le_refl _) (by unfold maxLen;omega) rfl
 have hnews:∀j u,vs[j]? =some u→(w.alloc (.cells #[] 103)).cell? ((⟨g,off,none⟩:Addr).add j)=some u:=fun j u hj=>by
  rw [addr_add];exact ((Fr.refl No w).alloc _).cell (HC.out j u hj) id
 go_enter func30,ntmps30
 go_wp2_with (at_builtin;refine wpList_append_lies _ rfl _ _ 27 rfl w.heap.size 103 i0 _ 4 32 underlying27 hi hz0 hz1 hz2 rfl (by decide) _ 0 [] rfl hown ⟨g,off,none⟩ n c vs rfl HL.out hnews hone (by omega) (by unfold maxLen;omega) (by omega) (by simp) _ rfl ?_;intro gg cap2 w1 hown2 hgrow hat hlt2)
 go_ret
 rw [Nat.zero_add,List.nil_append] at hown2
 have:=clone_post (v:= .slice none 0 0) hown2 hgrow hlt2
 simpa using this
theorem clone_maps_nil(n c w):Calls prog 30 #[.slice none n c] w fun e w'=>e= .returned (.slice none 0 0)∧w=w':=by
 have kn:=fun w=>slice_eq_maps w n c
 go_enter func30,ntmps30
 go_wp2_with fail
 go_ret
 exact ⟨rfl,rfl⟩
theorem clone_maps_zero(a c)(w:World):Calls prog 30 #[.slice (some a) 0 c] w fun e w'=>e= .returned (.slice (some ⟨w.heap.size,0,none⟩) 0 0)∧Fr No w w':=by
 have kn:=fun w=>slice_ne_maps w a 0 c
 go_enter func30,ntmps30
 go_wp2_with fail
 go_ret
 exact ⟨rfl,(Fr.refl _ _).alloc _⟩
def geI:Option Nat→Bool
 |none=>false
 |some _=>true
theorem idxf_maps(g off n c f:Nat)(l:List MapD)(p:MapD→Bool)(w:World)(hn:l.length=n)(hm:n≤1000000)(hc:CellsAt w g off (mflat l))(he:∀args w,(callFunc f args).run prog w= .ok (.enter f args) w)
  (hp:∀x∈l,∀W,Fr No w W→Calls prog f #[.agg #[.int .i64 x.kind, .int .i64 x.key, .int .i64 x.value, .int .i64 x.max]] W fun e w'=>e= .returned (.bool (p x))∧Fr No W w'):
  Calls prog 125 #[.slice (some ⟨g,off,none⟩) n c, .func (.func f) #[] #[]] w fun e w'=>e= .returned (.int .i64 (optI (l.findIdx? p)))∧Fr No w w':=by
 have HC:=Lib.hid hc
 have HN:=Lib.hid hn
 have HP:=Lib.hid hp
 clear hc hn hp
 go_enter func125,ntmps125
 go_wp2_with fail
 go_loopw [8] (fun i wr=>∃k:Nat,k≤n∧i= .int .i64 k∧Hid (Fr No w wr)∧Hid (∀(j:Nat) x,j<k→l[j]? =some x→p x=false)) (fun i _=>n-(intOf i).toNat)
 case atStart=>exact ⟨0,Nat.zero_le _,rfl,Fr.refl _ _,fun j _ h=>absurd h (Nat.not_lt_zero _)⟩
 case round=>
  obtain ⟨k,hk,rfl,HF,HJ⟩:=hrel
  by_cases hlt:k<n
  ·obtain ⟨x,hx⟩:∃x,l[k]? =some x:=⟨l[k]'(by rw [HN.out];exact hlt),List.getElem?_eq_getElem _⟩
   obtain ⟨k0,k1,k2,k3⟩:=map_cells (HF.out.cells HC.out id) hx
   have HX:=Lib.hid hx
   have HPX:=Lib.hid (HP.out x (List.mem_of_getElem? hx) wr HF.out)
   obtain ⟨t,ht⟩:∃t,p x=t:=⟨_,rfl⟩
   rw [ht] at HPX
   have HT:=Lib.hid ht
   clear ht hx
   cases t with
   |true=>
    have HFI:Hid (l.findIdx? p=some k):=Lib.hid (by
     rw [List.findIdx?_eq_some_iff_getElem]
     have hkl:k<l.length:=by rw [HN.out];exact hlt
     have:=HX.out
     rw [List.getElem?_eq_getElem hkl] at this
     refine ⟨hkl,by rw [Option.some.inj this];exact HT.out,fun j hj=> ?_⟩
     have:=HJ.out j _ hj (List.getElem?_eq_getElem (by omega))
     simpa using this)
    go_wp2_with fail
    refine (HPX.out).mono ?_
    rintro e w5 ⟨rfl,hf5⟩
    go_wp2_with fail
    go_ret
    exact ⟨by rw [HFI.out];rfl,HF.out.trans hf5⟩
   |false=>
    have HJ2:Hid (∀(j:Nat) y,j<k+1→l[j]? =some y→p y=false):=fun j y hj hy=>by
     by_cases e:j=k
     ·subst e
      rw [HX.out] at hy
      obtain rfl:=Option.some.inj hy
      exact HT.out
     ·exact HJ.out j y (by omega) hy
    go_wp2_with fail
    refine (HPX.out).mono ?_
    rintro e w5 ⟨rfl,hf5⟩
    go_wp2_with fail
    go_roundw
    case rel=>exact ⟨k+1,by omega,by go_num,HF.out.trans hf5,HJ2⟩
    case measure=>simp [intOf]<;>omega
  ·obtain rfl:k=n:=by omega
   have HFI:Hid (l.findIdx? p=none):=Lib.hid (by
    rw [List.findIdx?_eq_none_iff]
    intro x hx
    obtain ⟨j,hj,rfl⟩:=List.getElem_of_mem hx
    exact HJ.out j _ (by rw [←HN.out];exact hj) (List.getElem?_eq_getElem hj))
   go_wp2_with fail
   go_ret
   exact ⟨by rw [HFI.out];rfl,HF.out⟩
theorem contf_maps(v fv)(o:Option Nat)(w)(h:Calls prog 125 #[v,fv] w fun e w'=>e= .returned (.int .i64 (optI o))∧Fr No w w'):
  Calls prog 90 #[v,fv] w fun e w'=>e= .returned (.bool (geI o))∧Fr No w w':=by
 have H:=Lib.hid h
 clear h
 cases o with
 |none=>
  have H1:Hid (Calls prog 125 #[v,fv] w fun e w'=>e= .returned (.int .i64 (-1))∧Fr No w w'):=H.out
  go_enter func90,ntmps90
  go_wp2_with fail
  refine (H1.out).mono ?_
  rintro e w' ⟨rfl,hf⟩
  go_wp2_with fail
  go_ret
  exact ⟨rfl,hf⟩
 |some p=>
  have H1:Hid (Calls prog 125 #[v,fv] w fun e w'=>e= .returned (.int .i64 p)∧Fr No w w'):=H.out
  have q:decide ((p:Int)≥0)=true:=by simp
  go_enter func90,ntmps90
  go_wp2_with fail
  refine (H1.out).mono ?_
  rintro e w' ⟨rfl,hf⟩
  go_wp2_with fail
  go_ret
  exact ⟨rfl,hf⟩
def MapsIn(w:World)(v:Value)(l:List MapD):Prop:=(l= []∧∃a c,v= .slice a 0 c)∨∃g off cap,v= .slice (some ⟨g,off,none⟩) l.length cap∧CellsAt w g off (mflat l)
theorem MapsIn.fr{w w' v l}(h:MapsIn w v l)(hf:Fr No w w'):MapsIn w' v l:=by
 rcases h with h|⟨g,off,cap,rfl,hc⟩
 ·exact .inl h
 ·exact .inr ⟨g,off,cap,rfl,hf.cells hc id⟩
theorem MapsIn.form{w v}{l:List MapD}(h:MapsIn w v l):∃a c,v= .slice a l.length c:=by
 rcases h with ⟨rfl,a,c,rfl⟩|⟨g,off,cap,rfl,hc⟩
 ·exact ⟨a,c,rfl⟩
 ·exact ⟨_,_,rfl⟩
theorem idxf_maps_zero(a c fv w):
  Calls prog 125 #[.slice a 0 c,fv] w fun e w'=>e= .returned (.int .i64 (optI none))∧Fr No w w':=by
 go_enter func125,ntmps125
 go_wp2_with fail
 refine wp_loop_rounds 1 ?_
 rw [rounds_succ]
 go_wp2_with fail
 go_ret
 exact ⟨rfl,Fr.refl _ _⟩
theorem contf_may(v)(l:List MapD)(w)(h:MapsIn w v l)(hm:l.length≤1000000):
  Calls prog 90 #[v, .func (.func 91) #[] #[]] w fun e w'=>e= .returned (.bool (!(l.all MapD.may)))∧Fr No w w':=by
 have key:geI (l.findIdx? fun x=> !x.may)= !(l.all MapD.may):=by
  cases hf:l.findIdx? (fun x=> !x.may) with
  |none=>
   rw [List.findIdx?_eq_none_iff] at hf
   have:l.all MapD.may=true:=by rw [List.all_eq_true];intro x hx;simpa using hf x hx
   rw [this];rfl
  |some i=>
   rw [List.findIdx?_eq_some_iff_getElem] at hf
   obtain ⟨hi,h1,_⟩:=hf
   have:l.all MapD.may=false:=by
    rw [List.all_eq_false]
    exact ⟨l[i],List.getElem_mem hi,by simpa using h1⟩
   rw [this];rfl
 rw [←key]
 rcases h with ⟨rfl,a,c,rfl⟩|⟨g,off,cap,rfl,hc⟩
 ·exact contf_maps _ _ none w (idxf_maps_zero a c _ w)
 ·exact contf_maps _ _ _ w (idxf_maps g off l.length cap 91 l (fun x=> !x.may) w rfl hm hc (enters_of func91 (by kernel_rfl) rfl) (fun x _ W _=>may1_any x W))
theorem may_any(v)(l:List MapD)(w)(h:MapsIn w v l)(hm:l.length≤1000000):
  Calls prog 56 #[v] w fun e w'=>e= .returned (.bool (mayL l))∧Fr No w w':=by
 have HC:=Lib.hid (contf_may v l w h hm)
 obtain ⟨a,c,rfl⟩:=h.form
 unfold mayL
 generalize l.all MapD.may=t at*
 generalize l.length=n at*
 clear h
 by_cases h4:n≤4
 ·have q:decide (n≤4)=true:=by simpa using h4
  have hs:(decide (n≤4)&&t)=t:=by rw [q];rfl
  rw [hs]
  cases t with
  |true=>
   go_enter func56,ntmps56
   go_wp2_with (go_at_call 90;(with_reducible refine (HC.out).mono ?_);rintro e w' ⟨rfl,hf⟩)
   go_ret
   exact ⟨rfl,hf⟩
  |false=>
   go_enter func56,ntmps56
   go_wp2_with (go_at_call 90;(with_reducible refine (HC.out).mono ?_);rintro e w' ⟨rfl,hf⟩)
   go_ret
   exact ⟨rfl,hf⟩
 ·have q:decide (n≤4)=false:=by simpa using h4
  have hs:(decide (n≤4)&&t)=false:=by rw [q];rfl
  rw [hs]
  go_enter func56,ntmps56
  go_wp2_with fail
  go_ret
  exact ⟨rfl,Fr.refl _ _⟩
theorem Reg.typed_of(x:MapD)(i)(hx:x.may=true)(hi:i<4):(x.reg i).typed:=by
 have h:=(MapD.may_iff x).1 hx
 have e2:x.value*x.max≤64*16:=Int.mul_le_mul (by omega) (by omega) (by omega) (by omega)
 refine ⟨?_,?_,?_⟩
 ·show 0≤mbase i
  unfold mbase;omega
 ·show mbase i≤_
  unfold mbase;omega
 ·show (List.replicate (x.value*x.max).toNat (0:UInt8)).length≤_
  simp;omega
theorem mregions_no(v w)(h:Calls prog 56 #[v] w fun e w'=>e= .returned (.bool false)∧Fr No w w'):
  Calls prog 25 #[v] w fun e w'=>e= .returned (.slice none 0 0)∧Fr No w w':=by
 have H:=Lib.hid h
 clear h
 go_enter func25,ntmps25
 go_wp2_with (go_at_call 56;(with_reducible refine (H.out).mono ?_);rintro e w' ⟨rfl,hf⟩)
 go_ret
 exact ⟨rfl,hf⟩
theorem mregions_walk(g off n cap)(l:List MapD)(w:World)(hn:l.length=n)(h4:n≤4)(hc:CellsAt w g off (mflat l))(hmay:∀x∈l,x.may=true)(hcall:Calls prog 56 #[.slice (some ⟨g,off,none⟩) n cap] w fun e w'=>e= .returned (.bool true)∧Fr No w w')(hrep:∀(c:Nat) W,c≤1024→Calls prog 55 #[.string ⟨#[0]⟩, .int .i64 c] W fun e w'=>e= .returned (.string ⟨(List.replicate c (0:UInt8)).toArray⟩)∧Fr No W w'):
  Calls prog 25 #[.slice (some ⟨g,off,none⟩) n cap] w fun e w'=>∃u,e= .returned u∧Hid (Gath w 58 3 n (aflat (mregs l)) u w'):=by
 have HC:=Lib.hid hc
 have HN:=Lib.hid hn
 have HM:=Lib.hid hmay
 have HCALL:=Lib.hid hcall
 have HREP:=Lib.hid hrep
 obtain ⟨i0,hi0,hz0,hz1,hz2⟩:=info_parts Tryz.info_areg
 clear hc hn hmay hcall hrep
 go_enter func25,ntmps25
 go_wp2_with (go_at_call 56;(with_reducible refine (HCALL.out).mono ?_);rintro e w0 ⟨rfl,hf0⟩)
 have HF0:=Lib.hid hf0
 clear hf0
 go_loopw [3,11] (fun o s wr=>∃k:Nat,k≤n∧s= .int .i64 k∧Hid (Gath w 58 3 k (aflat ((mregs l).take k)) o wr)) (fun _ s _=>n-(intOf s).toNat)
 case atStart=>exact ⟨0,Nat.zero_le _,rfl,Gath.start' HF0.out _ _⟩
 case round=>
  obtain ⟨k,hk,rfl,HI⟩:=hrel
  by_cases hlt:k<n
  ·obtain ⟨x,hx⟩:∃x,l[k]? =some x:=⟨l[k]'(by rw [HN.out];exact hlt),List.getElem?_eq_getElem _⟩
   obtain ⟨k0,k1,k2,k3⟩:=map_cells (HI.out.fr.cells HC.out id) hx
   have hxm:=HM.out x (List.mem_of_getElem? hx)
   have hmi:=(MapD.may_iff x).1 hxm
   have e1:1≤x.value*x.max:=Int.le_trans (by omega) (Int.mul_le_mul (a:=1) (b:=1) (by omega) (by omega) (by omega) (by omega))
   have e2:x.value*x.max≤64*16:=Int.mul_le_mul (by omega) (by omega) (by omega) (by omega)
   have htake:aflat ((mregs l).take (k+1))=aflat ((mregs l).take k)++ [.int .u64 (mbase k), .string ⟨(List.replicate (x.value*x.max).toNat (0:UInt8)).toArray⟩, .bool true]:=by
    have hg:(mregs l)[k]? =some (x.reg k):=by rw [mregs_get,hx];rfl
    rw [List.take_add_one,hg]
    simp [aflat,Reg.cells,MapD.reg]
   obtain ⟨c,hcn⟩:∃c:Nat,x.value*x.max=c:=⟨(x.value*x.max).toNat,by omega⟩
   rw [hcn] at htake e1 e2
   rw [Int.toNat_natCast] at htake
   have f1:IntKind.i64.wrap (x.value*x.max)=c:=by rw [hcn];exact IntWalk.i64_in _ (by omega)
   obtain ⟨kind,key,value,max⟩:=x
   simp only at k0 k1 k2 k3 f1
   have HT:=Lib.hid htake
   have HR1:Hid (∀W,Calls prog 55 #[.string ⟨#[0]⟩, .int .i64 c] W fun e w'=>e= .returned (.string ⟨(List.replicate c (0:UInt8)).toArray⟩)∧Fr No W w'):=fun W=>HREP.out c W (by omega)
   have HB:Hid (∀W,Calls prog 57 #[.int .i64 k] W fun e w'=>e= .returned (.int .u64 (mbase k))∧W=w'):=fun W=>mbase_any k W (by omega)
   clear hx hxm hmi hcn htake e1 HREP
   generalize mbase k=B at HT HB
   generalize (⟨(List.replicate c (0:UInt8)).toArray⟩:ByteArray)=D at HT HR1
   go_upto_region 13 with fail
   have HG:Hid (Gath w 58 3 k (aflat ((mregs l).take k)) u3 (wr.alloc (.cells #[.int .i64 kind, .int .i64 key, .int .i64 value, .int .i64 max] 103))):=HI.out.to ((Fr.refl _ _).alloc _)
   have HNB:Hid (∀k',OwnOf u3 k'→k'≠wr.heap.size):=fun k' hk'=>by have:=(HI.out.own.lt k' hk').2;omega
   have HNA:Hid (∀k',From w k'∨¬From w k'):=fun k'=>by unfold From;omega
   have q2:(wr.alloc (.cells #[.int .i64 kind, .int .i64 key, .int .i64 value, .int .i64 max] 103)).cell? ⟨wr.heap.size,2,none⟩=some (.int .i64 value):=by rw [World.cell?_alloc_new];rfl
   have q3:(wr.alloc (.cells #[.int .i64 kind, .int .i64 key, .int .i64 value, .int .i64 max] 103)).cell? ⟨wr.heap.size,3,none⟩=some (.int .i64 max):=by rw [World.cell?_alloc_new];rfl
   clear HI k0 k1 k2 k3
   generalize wr.alloc (.cells #[.int .i64 kind, .int .i64 key, .int .i64 value, .int .i64 max] 103)=wx at*
   generalize wr.heap.size=BX at*
   generalize aflat ((mregs l).take k)=told at HG HT
   have HOWN:Hid (∀W,Fr No wx W→W.ownsRow w.heap.size 58 3 u3 k told):=fun W hW=>ownsRow_fr HG.out.own hW (fun _ _=>id)
   have HSZ:Hid (∀W,Fr No wx W→w.heap.size≤W.heap.size):=fun W hW=>Nat.le_trans HG.out.fr.size hW.size
   go_region_held3 (fun W=>W.cell? ⟨BX,2,none⟩=some (.int .i64 value)∧W.cell? ⟨BX,3,none⟩=some (.int .i64 max))
    (first|go_keep|(refine ⟨hf6.cell ?_ id,hf6.cell ?_ id⟩<;>(first|assumption|go_keep))|(refine ⟨((Fr.refl No _).alloc _).cell ?_ id,((Fr.refl No _).alloc _).cell ?_ id⟩<;>(first|assumption|go_keep))|(have hh:(w6.alloc (.cells #[.int .u64 B, .string D, .bool true] 58)).cell? ⟨BX,2,none⟩=some (.int .i64 value)∧(w6.alloc (.cells #[.int .u64 B, .string D, .bool true] 58)).cell? ⟨BX,3,none⟩=some (.int .i64 max):=(by assumption);exact ⟨fr8.cell hh.1 (fun hk=>HNB.out _ hk rfl),fr8.cell hh.2 (fun hk=>HNB.out _ hk rfl)⟩))
    (first
     |(go_at_call 57;(with_reducible refine (HB.out _).mono ?_);rintro e w5 ⟨rfl,rfl⟩)
     |(go_at_call 55;(with_reducible refine (HR1.out _).mono ?_);rintro e w6 ⟨rfl,hf6⟩)
     |(refine guard_append (.tmp 16) (.tmp 26) 30 ?_ ?_;rfl;refine step_append_src (by rfl) (.tmp 16) (.tmp 26) 30 (by rfl) w.heap.size 58 i0 _ 3 32 underlying30 hi0 hz0 hz1 hz2 rfl (by decide) u3 k told (by rfl) (by exact HOWN.out _ ((((Fr.refl _ _).drew).trans hf6).alloc _)) _ 1 [.int .u64 B, .string D, .bool true] (by rfl) (by exact src_new _ [.int .u64 B, .string D, .bool true] 58) (by rfl) (by simp [Value.oneCell']) (by unfold maxLen;omega) (by omega) (by exact HSZ.out _ ((((Fr.refl _ _).drew).trans hf6).alloc _)) ?_;intro v8 w8 own8 fr8))
   all_goals
    have HG8:Hid (Gath w 58 3 (k+1) (told++ [.int .u64 B, .string D, .bool true]) v8 w8):=(HG.out.to ((((Fr.refl _ _).drew).trans hf6).alloc _)).step own8 fr8
    clear own8 fr8 hf6 q2 q3
    go_wp2_with fail
    go_roundw
    case rel=>exact ⟨k+1,by omega,by go_num,by rw [HT.out];exact HG8⟩
    case measure=>simp [intOf]<;>omega
  ·obtain rfl:k=n:=by omega
   go_wp2_with fail
   go_ret
   refine ⟨_,rfl,?_⟩
   have:=HI.out
   rwa [List.take_of_length_le (by rw [mregs_length,HN.out];exact Nat.le_refl _)] at this
theorem Tryz.repeatExtra:Builder.Extra prog Tryz.lays105_ren where
 sizeBuilder:=by kernel_rfl
 liesBuilder:=by kernel_rfl
 t5:=Tryz.lays105.t5
 a5:=Tryz.lays105.a5
 z5:=Tryz.lays105.z5
 v5:=Tryz.lays105.v5
 infoByte:=by kernel_rfl
 cellsByte:=by kernel_rfl
 sizeByte:=by kernel_rfl
 neB5:=by decide
theorem repeatL_zero(c):Lib.repeatL [(0:UInt8)] c=List.replicate c 0:=by
 induction c with
 |zero=>rfl
 |succ c ih=>simp [Lib.repeatL,ih,List.replicate_succ]
theorem repeat_any(c:Nat)(w:World)(hc:c≤1000000):Calls prog 55 #[.string ⟨#[0]⟩, .int .i64 c] w fun e w'=>e= .returned (.string ⟨(List.replicate c (0:UInt8)).toArray⟩)∧Fr No w w':=by
 have h:Calls prog 55 #[.string ⟨#[0]⟩, .int .i64 c] w fun e w'=>e= .returned (.string ⟨(Lib.repeatL (⟨#[0]⟩:ByteArray).data.toList c).toArray⟩)∧Below w.heap.size w w':=Any.strings_Repeat Tryz.lays105 Tryz.repeatExtra ⟨#[0]⟩ c w (by omega) (by show 1*c≤_;omega)
 refine h.mono fun e w' ⟨he,hf⟩=>⟨?_,Fr.of_below hf⟩
 rw [he]
 have e1:(⟨#[0]⟩:ByteArray).data.toList= [(0:UInt8)]:=rfl
 rw [e1,repeatL_zero]
theorem mregs_typed{l:List MapD}(h:mayL l=true):∀r∈mregs l,r.typed:=fun r hr=>by
 obtain ⟨h4,hm⟩:=(mayL_iff l).1 h
 obtain ⟨i,hi,rfl⟩:=List.getElem_of_mem hr
 have hl:i<l.length:=by rw [mregs_length] at hi;exact hi
 have hg:=mregs_get l i
 rw [List.getElem?_eq_getElem hi,List.getElem?_eq_getElem hl] at hg
 rw [Option.some.inj hg]
 exact Reg.typed_of _ _ (hm _ (List.getElem_mem hl)) (by omega)
def mregsOf(l:List MapD):List Reg:=if mayL l=true then mregs l else []
theorem Gath.regs{w w'}{rs:List Reg}{v}(h:Gath w 58 3 rs.length (aflat rs) v w')(ht:∀r∈rs,r.typed):RegsAt w' v rs:=by
 rcases h.cells with ⟨h0,_,a,c,rfl⟩|⟨g,cap,rfl,hc,_⟩
 ·exact ⟨ht, .inl ⟨List.eq_nil_of_length_eq_zero h0,_,_,rfl⟩⟩
 ·exact ⟨ht, .inr ⟨g,0,cap,rfl,hc⟩⟩
theorem mregions_zero(a c w)(hcall:Calls prog 56 #[.slice a 0 c] w fun e w'=>e= .returned (.bool true)∧Fr No w w'):
  Calls prog 25 #[.slice a 0 c] w fun e w'=>e= .returned (.slice none 0 0)∧Fr No w w':=by
 have H:=Lib.hid hcall
 clear hcall
 go_enter func25,ntmps25
 go_wp2_with (go_at_call 56;(with_reducible refine (H.out).mono ?_);rintro e w' ⟨rfl,hf⟩)
 refine wp_loop_rounds 1 ?_
 rw [rounds_succ]
 go_wp2_with fail
 go_ret
 exact ⟨rfl,hf⟩
theorem mregions_any(v)(l:List MapD)(w)(h:MapsIn w v l)(hm:l.length≤1000000):
  Calls prog 25 #[v] w fun e w'=>∃u,e= .returned u∧RegsAt w' u (mregsOf l)∧Fr No w w':=by
 have hmay:=may_any v l w h hm
 unfold mregsOf
 cases hq:mayL l with
 |false=>
  rw [hq] at hmay
  exact (mregions_no v w hmay).mono fun e w' ⟨he,hf⟩=>⟨_,he,⟨by simp, .inl ⟨rfl,_,_,rfl⟩⟩,hf⟩
 |true=>
  rw [hq] at hmay
  rw [if_pos rfl]
  obtain ⟨h4,hall⟩:=(mayL_iff l).1 hq
  rcases h with ⟨rfl,a,c,rfl⟩|⟨g,off,cap,rfl,hc⟩
  ·exact (mregions_zero a c w hmay).mono fun e w' ⟨he,hf⟩=>⟨_,he,⟨by simp [mregs,mregsFrom], .inl ⟨rfl,_,_,rfl⟩⟩,hf⟩
  ·refine (mregions_walk g off l.length cap l w rfl h4 hc hall hmay (fun c W hc=>repeat_any c W (by omega))).mono ?_
   rintro e w' ⟨u,rfl,hG⟩
   have hG':=hG.out
   rw [←mregs_length l] at hG'
   exact ⟨u,rfl,hG'.regs (mregs_typed hq),hG'.fr⟩
def fits(x y:Reg):Bool:=decide (y.base=x.base∧y.data.length=x.data.length∧y.free=true)
theorem hold1_base(bx xb yb yd yf)(w:World)(h0:w.cell? ⟨bx,0,none⟩=some (.int .u64 xb))(hne:(yb==xb)=false):
  Calls prog 98 #[.agg #[.int .u64 yb, .string yd, .bool yf], .pointer (some ⟨bx,0,none⟩)] w fun e w'=>e= .returned (.bool false)∧Fr No w w':=by
 have h0':(w.alloc (.cells #[.int .u64 yb, .string yd, .bool yf] 58)).cell? ⟨bx,0,none⟩=some (.int .u64 xb):=((Fr.refl No w).alloc _).cell h0 id
 go_enter func98,ntmps98
 go_wp2_with fail
 go_ret
 exact ⟨rfl,(Fr.refl _ _).alloc _⟩
theorem hold1_len(bx yl xl xb yb)(xd yd:ByteArray)(yf)(w:World)(h0:w.cell? ⟨bx,0,none⟩=some (.int .u64 xb))(h1:w.cell? ⟨bx,1,none⟩=some (.string xd))(he:(yb==xb)=true)(sx:xd.size=xl)(sy:yd.size=yl)(t)(hl:(yl==xl)=t)(hl2:((yl:Int)==(xl:Int))=t)(r)(hr:(t&&yf)=r):
  Calls prog 98 #[.agg #[.int .u64 yb, .string yd, .bool yf], .pointer (some ⟨bx,0,none⟩)] w fun e w'=>e= .returned (.bool r)∧Fr No w w':=by
 have h0':(w.alloc (.cells #[.int .u64 yb, .string yd, .bool yf] 58)).cell? ⟨bx,0,none⟩=some (.int .u64 xb):=((Fr.refl No w).alloc _).cell h0 id
 have h1':(w.alloc (.cells #[.int .u64 yb, .string yd, .bool yf] 58)).cell? ⟨bx,1,none⟩=some (.string xd):=((Fr.refl No w).alloc _).cell h1 id
 cases t with
 |false=>
  obtain rfl:r=false:=hr.symm
  clear hr
  go_enter func98,ntmps98
  go_wp2_with fail
  go_ret
  exact ⟨rfl,(Fr.refl _ _).alloc _⟩
 |true=>
  obtain rfl:yf=r:=hr
  go_enter func98,ntmps98
  go_wp2_with fail
  go_ret
  exact ⟨rfl,(Fr.refl _ _).alloc _⟩
theorem hold1_any(bx)(x y:Reg)(w:World)(h0:w.cell? ⟨bx,0,none⟩=some (.int .u64 x.base))(h1:w.cell? ⟨bx,1,none⟩=some (.string ⟨x.data.toArray⟩)):
  Calls prog 98 #[.agg #[.int .u64 y.base, .string ⟨y.data.toArray⟩, .bool y.free], .pointer (some ⟨bx,0,none⟩)] w fun e w'=>e= .returned (.bool (fits x y))∧Fr No w w':=by
 unfold fits
 by_cases hb:y.base=x.base
 ·refine hold1_len bx y.data.length x.data.length _ _ _ _ _ w h0 h1 (by simpa using hb) rfl rfl (decide (y.data.length=x.data.length)) ?_ ?_ _ ?_
  ·rw [Bool.eq_iff_iff];simp
  ·rw [Bool.eq_iff_iff];simp;omega
  ·rw [Bool.eq_iff_iff];simp [hb]
 ·have e:decide (y.base=x.base∧y.data.length=x.data.length∧y.free=true)=false:=by simp [hb]
  rw [e]
  exact hold1_base bx _ _ _ _ w h0 (by simpa using hb)
theorem idxf_regs(g off n c f:Nat)(lb:Value)(l:List Reg)(p:Reg→Bool)(w:World)(hn:l.length=n)(hm:n≤1000000)(hc:CellsAt w g off (aflat l))(he:∀args w,(callFunc f args).run prog w= .ok (.enter f args) w)
  (hp:∀x∈l,∀W,Fr No w W→Calls prog f #[.agg #[.int .u64 x.base, .string ⟨x.data.toArray⟩, .bool x.free],lb] W fun e w'=>e= .returned (.bool (p x))∧Fr No W w'):
  Calls prog 84 #[.slice (some ⟨g,off,none⟩) n c, .func (.func f) #[] #[lb]] w fun e w'=>e= .returned (.int .i64 (optI (l.findIdx? p)))∧Fr No w w':=by
 have HC:=Lib.hid hc
 have HN:=Lib.hid hn
 have HP:=Lib.hid hp
 clear hc hn hp
 go_enter func84,ntmps84
 go_wp2_with fail
 go_loopw [8] (fun i wr=>∃k:Nat,k≤n∧i= .int .i64 k∧Hid (Fr No w wr)∧Hid (∀(j:Nat) x,j<k→l[j]? =some x→p x=false)) (fun i _=>n-(intOf i).toNat)
 case atStart=>exact ⟨0,Nat.zero_le _,rfl,Fr.refl _ _,fun j _ h=>absurd h (Nat.not_lt_zero _)⟩
 case round=>
  obtain ⟨k,hk,rfl,HF,HJ⟩:=hrel
  by_cases hlt:k<n
  ·obtain ⟨x,hx⟩:∃x,l[k]? =some x:=⟨l[k]'(by rw [HN.out];exact hlt),List.getElem?_eq_getElem _⟩
   obtain ⟨k0,k1,k2⟩:=areg_cells (HF.out.cells HC.out id) hx
   have HX:=Lib.hid hx
   have HPX:=Lib.hid (HP.out x (List.mem_of_getElem? hx) wr HF.out)
   obtain ⟨t,ht⟩:∃t,p x=t:=⟨_,rfl⟩
   rw [ht] at HPX
   have HT:=Lib.hid ht
   clear ht hx
   cases t with
   |true=>
    have HFI:Hid (l.findIdx? p=some k):=Lib.hid (by
     rw [List.findIdx?_eq_some_iff_getElem]
     have hkl:k<l.length:=by rw [HN.out];exact hlt
     have:=HX.out
     rw [List.getElem?_eq_getElem hkl] at this
     refine ⟨hkl,by rw [Option.some.inj this];exact HT.out,fun j hj=> ?_⟩
     have:=HJ.out j _ hj (List.getElem?_eq_getElem (by omega))
     simpa using this)
    go_wp2_with fail
    refine (HPX.out).mono ?_
    rintro e w5 ⟨rfl,hf5⟩
    go_wp2_with fail
    go_ret
    exact ⟨by rw [HFI.out];rfl,HF.out.trans hf5⟩
   |false=>
    have HJ2:Hid (∀(j:Nat) y,j<k+1→l[j]? =some y→p y=false):=fun j y hj hy=>by
     by_cases e:j=k
     ·subst e
      rw [HX.out] at hy
      obtain rfl:=Option.some.inj hy
      exact HT.out
     ·exact HJ.out j y (by omega) hy
    go_wp2_with fail
    refine (HPX.out).mono ?_
    rintro e w5 ⟨rfl,hf5⟩
    go_wp2_with fail
    go_roundw
    case rel=>exact ⟨k+1,by omega,by go_num,HF.out.trans hf5,HJ2⟩
    case measure=>simp [intOf]<;>omega
  ·obtain rfl:k=n:=by omega
   have HFI:Hid (l.findIdx? p=none):=Lib.hid (by
    rw [List.findIdx?_eq_none_iff]
    intro x hx
    obtain ⟨j,hj,rfl⟩:=List.getElem_of_mem hx
    exact HJ.out j _ (by rw [←HN.out];exact hj) (List.getElem?_eq_getElem hj))
   go_wp2_with fail
   go_ret
   exact ⟨by rw [HFI.out];rfl,HF.out⟩
theorem idxf_regs_zero(a c fv w):
  Calls prog 84 #[.slice a 0 c,fv] w fun e w'=>e= .returned (.int .i64 (optI none))∧Fr No w w':=by
 go_enter func84,ntmps84
 go_wp2_with fail
 refine wp_loop_rounds 1 ?_
 rw [rounds_succ]
 go_wp2_with fail
 go_ret
 exact ⟨rfl,Fr.refl _ _⟩
theorem contf_regs(v fv)(o:Option Nat)(w)(h:Calls prog 84 #[v,fv] w fun e w'=>e= .returned (.int .i64 (optI o))∧Fr No w w'):
  Calls prog 97 #[v,fv] w fun e w'=>e= .returned (.bool (geI o))∧Fr No w w':=by
 have H:=Lib.hid h
 clear h
 cases o with
 |none=>
  have H1:Hid (Calls prog 84 #[v,fv] w fun e w'=>e= .returned (.int .i64 (-1))∧Fr No w w'):=H.out
  go_enter func97,ntmps97
  go_wp2_with fail
  refine (H1.out).mono ?_
  rintro e w' ⟨rfl,hf⟩
  go_wp2_with fail
  go_ret
  exact ⟨rfl,hf⟩
 |some p=>
  have H1:Hid (Calls prog 84 #[v,fv] w fun e w'=>e= .returned (.int .i64 p)∧Fr No w w'):=H.out
  have q:decide ((p:Int)≥0)=true:=by simp
  go_enter func97,ntmps97
  go_wp2_with fail
  refine (H1.out).mono ?_
  rintro e w' ⟨rfl,hf⟩
  go_wp2_with fail
  go_ret
  exact ⟨rfl,hf⟩
theorem geI_find{α:Type}(l:List α)(p:α→Bool):geI (l.findIdx? p)=l.any p:=by
 cases hf:l.findIdx? p with
 |none=>
  rw [List.findIdx?_eq_none_iff] at hf
  have:l.any p=false:=by rw [List.any_eq_false];intro x hx;simpa using hf x hx
  rw [this];rfl
 |some i=>
  rw [List.findIdx?_eq_some_iff_getElem] at hf
  obtain ⟨hi,h1,_⟩:=hf
  have:l.any p=true:=by
   rw [List.any_eq_true]
   exact ⟨l[i],List.getElem_mem hi,h1⟩
  rw [this];rfl
theorem contf_hold(bx)(x:Reg)(v)(l:List Reg)(w:World)(h:RegsAt w v l)(hm:l.length≤1000000)(h0:w.cell? ⟨bx,0,none⟩=some (.int .u64 x.base))(h1:w.cell? ⟨bx,1,none⟩=some (.string ⟨x.data.toArray⟩)):
  Calls prog 97 #[v, .func (.func 98) #[] #[.pointer (some ⟨bx,0,none⟩)]] w fun e w'=>e= .returned (.bool (l.any (fits x)))∧Fr No w w':=by
 rw [←geI_find]
 rcases h.2 with ⟨rfl,a,c,rfl⟩|⟨g,off,cap,rfl,hc⟩
 ·exact contf_regs _ _ none w (idxf_regs_zero a c _ w)
 ·exact contf_regs _ _ _ w (idxf_regs g off l.length cap 98 (.pointer (some ⟨bx,0,none⟩)) l (fits x) w rfl hm hc (enters_of func98 (by kernel_rfl) rfl) (fun y _ W hW=>hold1_any bx x y W (hW.cell h0 id) (hW.cell h1 id)))
def holdsB(rs m:List Reg):Bool:=rs.all fun x=>m.any (fits x)
def errI(b:Bool):Int:=if b=true then 0 else 2
theorem hold_walk(lv mp)(rs m:List Reg)(w)(hm:m.length≤1000000)(hrs:rs.length≤1000000)(hcopy:Calls prog 95 #[mp] w fun e w'=>(∃b',e= .returned (.pointer (some ⟨b',0,none⟩)))∧Fr No w w')(hreg:∀W,Fr No w W→Calls prog 96 #[mp] W fun e w'=>∃u,e= .returned u∧RegsAt w' u m∧Fr No W w')(hmr:∀W,Fr No w W→Calls prog 25 #[lv] W fun e w'=>∃u,e= .returned u∧RegsAt w' u rs∧Fr No W w'):
  Calls prog 62 #[lv,mp] w fun e w'=>e= .returned (.int .i64 (errI (holdsB rs m)))∧Fr No w w':=by
 have HCOPY:=Lib.hid hcopy
 have HREG:=Lib.hid hreg
 have HMR:=Lib.hid hmr
 clear hcopy hreg hmr
 go_enter func62,ntmps62
 go_wp2_with fail
 refine (HCOPY.out).mono ?_
 rintro e w1 ⟨⟨b',rfl⟩,hf1⟩
 have HF1:=Lib.hid hf1
 clear hf1
 go_wp2_with fail
 refine (HREG.out w1 HF1.out).mono ?_
 rintro e w2 ⟨u,rfl,hu,hf2⟩
 have HF2:=Lib.hid (HF1.out.trans hf2)
 have HU:=Lib.hid hu
 clear hf2 hu
 go_wp2_with fail
 refine (HMR.out w2 HF2.out).mono ?_
 rintro e w3 ⟨v,rfl,hv,hf3⟩
 have HF3:=Lib.hid (HF2.out.trans hf3)
 have HU3:Hid (RegsAt w3 u m):=HU.out.fr hf3
 clear hf3 HU HREG HMR HCOPY HF1 HF2
 obtain ⟨hty,⟨rfl,a,c,rfl⟩|⟨g,off,cap,rfl,hc⟩⟩:=hv
 ·go_wp2_with fail
  refine wp_loop_rounds 1 ?_
  rw [rounds_succ]
  go_wp2_with fail
  go_ret
  exact ⟨rfl,HF3.out⟩
 ·have HC:=Lib.hid hc
  obtain ⟨n,hn⟩:∃n,rs.length=n:=⟨_,rfl⟩
  rw [hn] at hrs ⊢
  have HN:=Lib.hid hn
  clear hc hty hn
  go_wp2_with fail
  go_loopw [16] (fun i wr=>∃k:Nat,k≤n∧i= .int .i64 k∧Hid (Fr No w3 wr)∧Hid (∀(j:Nat) x,j<k→rs[j]? =some x→m.any (fits x)=true)) (fun i _=>n-(intOf i).toNat)
  case atStart=>exact ⟨0,Nat.zero_le _,rfl,Fr.refl _ _,fun j _ h=>absurd h (Nat.not_lt_zero _)⟩
  case round=>
   obtain ⟨k,hk,rfl,HF,HJ⟩:=hrel
   by_cases hlt:k<n
   ·obtain ⟨x,hx⟩:∃x,rs[k]? =some x:=⟨rs[k]'(by rw [HN.out];exact hlt),List.getElem?_eq_getElem _⟩
    obtain ⟨k0,k1,k2⟩:=areg_cells (HF.out.cells HC.out id) hx
    have HX:=Lib.hid hx
    have HCT:Hid (Calls prog 97 #[u, .func (.func 98) #[] #[.pointer (some ⟨wr.heap.size,0,none⟩)]] (wr.alloc (.cells #[.int .u64 x.base, .string ⟨x.data.toArray⟩, .bool x.free] 58)) fun e w'=>e= .returned (.bool (m.any (fits x)))∧Fr No wr w'):=
     Lib.hid ((contf_hold wr.heap.size x u m _ (HU3.out.fr (HF.out.trans ((Fr.refl _ _).alloc _))) hm (by rw [World.cell?_alloc_new];rfl) (by rw [World.cell?_alloc_new];rfl)).mono fun e w' ⟨he,hf⟩=>⟨he,((Fr.refl _ _).alloc _).trans hf⟩)
    obtain ⟨t,ht⟩:∃t,m.any (fits x)=t:=⟨_,rfl⟩
    rw [ht] at HCT
    have HT:=Lib.hid ht
    clear ht hx
    cases t with
    |true=>
     have HJ2:Hid (∀(j:Nat) y,j<k+1→rs[j]? =some y→m.any (fits y)=true):=fun j y hj hy=>by
      by_cases e:j=k
      ·subst e
       rw [HX.out] at hy
       obtain rfl:=Option.some.inj hy
       exact HT.out
      ·exact HJ.out j y (by omega) hy
     go_wp2_with fail
     refine (HCT.out).mono ?_
     rintro e w5 ⟨rfl,hf5⟩
     go_wp2_with fail
     go_roundw
     case rel=>exact ⟨k+1,by omega,by go_num,HF.out.trans hf5,HJ2⟩
     case measure=>simp [intOf]<;>omega
    |false=>
     have HR:Hid (errI (holdsB rs m)=2):=Lib.hid (by
      have:holdsB rs m=false:=by
       unfold holdsB
       rw [List.all_eq_false]
       exact ⟨x,List.mem_of_getElem? HX.out,by rw [HT.out];simp⟩
      rw [this];rfl)
     go_wp2_with fail
     refine (HCT.out).mono ?_
     rintro e w5 ⟨rfl,hf5⟩
     go_wp2_with fail
     go_ret
     exact ⟨by rw [HR.out];rfl,HF3.out.trans (HF.out.trans hf5)⟩
   ·obtain rfl:k=n:=by omega
    have HR:Hid (errI (holdsB rs m)=0):=Lib.hid (by
     have:holdsB rs m=true:=by
      unfold holdsB
      rw [List.all_eq_true]
      intro x hx
      obtain ⟨j,hj,rfl⟩:=List.getElem_of_mem hx
      exact HJ.out j _ (by rw [←HN.out];exact hj) (List.getElem?_eq_getElem hj)
     rw [this];rfl)
    go_wp2_with fail
    go_ret
    exact ⟨by rw [HR.out];rfl,HF3.out.trans HF.out⟩
def MemOk(m:List Reg):Prop:=m.length≤1000000∧∀r∈m,r.data.length≤140737488355328
theorem mregsOf_length(l):(mregsOf l).length≤4:=by
 unfold mregsOf
 split
 ·rename_i h
  rw [mregs_length]
  exact ((mayL_iff l).1 h).1
 ·simp
theorem hold_any{T w mb m}(hm:MemAt w mb m T)(hok:MemOk m)(v)(l:List MapD)(h:MapsIn w v l)(hl:l.length≤1000000):
  Calls prog 62 #[v, .pointer (some ⟨mb,0,none⟩)] w fun e w'=>e= .returned (.int .i64 (errI (holdsB (mregsOf l) m)))∧Fr No w w':=by
 refine hold_walk v _ (mregsOf l) m w hok.1 (by have:=mregsOf_length l;omega) ((copy_any hm hok.1 hok.2).mono ?_) (fun W hW=>regions_any (hm.fr hW (fun _ _=>id)) hok.1) (fun W hW=>mregions_any v l W (h.fr hW) hl)
 rintro e w' ⟨b',he,hf,_⟩
 exact ⟨⟨b',he⟩,hf⟩
end Go.Proofs.YtfmcmfiebehhiaaGreatDoor

