/- What of a memory's regions never changes: where they lie, how much they have, and whether they may be written. No condition. helpers: zeros, present; slices.DeleteFunc, Concat of regions. .. -/
import Derived.Test.YtjcgmhlbkheadaaGreatDoorCore13
import Derived.Test.YtjcgmhlbkheadaaGreatDoorCoreS
import Derived.Test.YtjcgmhlbkheadaaGreatDoorCore9
import Derived.Outline
set_option linter.all false
set_option linter.unusedVariables false
set_option linter.unusedSimpArgs false
set_option maxRecDepth 100000
set_option maxHeartbeats 2000000
namespace Go.Proofs.YtjcgmhlbkheadaaGreatDoor
open Go.RowKit
def Reg.shape(r:Reg):Int×Nat×Bool:=(r.base,r.data.length,r.free)
def mshape(m:List Reg):List (Int×Nat×Bool):=m.map Reg.shape
theorem mshape_mput(m:List Reg)(addr:Int)(bs:List UInt8):mshape (mput m addr bs)=mshape m:=by
 unfold mput
 split
 ·rfl
 ·rename_i i hsp
  have hi:=spot_lt hsp
  have hh:=(Reg.has_iff _ _ _).1 (spot_has hsp)
  unfold mshape
  apply List.ext_getElem?
  intro j
  rw [List.getElem?_map,List.getElem?_map,List.getElem?_modify]
  by_cases e:i=j
  ·subst e
   rw [List.getElem?_eq_getElem hi]
   simp only [if_true,Option.map_some,Option.some.injEq,Option.map_eq_map]
   unfold Reg.shape
   rw [put_length _ _ _ hh.1 hh.2]
   rfl
  ·simp [e]
theorem mshape_mwrite(m:List Reg)(addr n:Int)(v:Nat):mshape (mwrite m addr n v).1=mshape m:=by
 unfold mwrite
 split
 ·split
  ·rfl
  ·split
   ·exact mshape_mput _ _ _
   ·rfl
 ·rfl
theorem shape_length{m m':List Reg}(h:mshape m'=mshape m):m'.length=m.length:=by
 have:=congrArg List.length h
 simpa [mshape] using this
theorem shape_get{m m':List Reg}(h:mshape m'=mshape m){j:Nat}{r:Reg}(hr:m[j]? =some r):∃r',m'[j]? =some r'∧r'.base=r.base∧r'.data.length=r.data.length∧r'.free=r.free:=by
 have e:(mshape m')[j]? =(mshape m)[j]? :=by rw [h]
 unfold mshape at e
 rw [List.getElem?_map,List.getElem?_map,hr] at e
 obtain ⟨r',h1,h2⟩:=Option.map_eq_some_iff.1 e
 unfold Reg.shape at h2
 simp only [Prod.mk.injEq] at h2
 exact ⟨r',h1,h2.1,h2.2.1,h2.2.2⟩
theorem HoldsM.shape{S:List Tab}{m m':List Reg}(h:HoldsM S m)(hs:mshape m'=mshape m):HoldsM S m':=by
 intro i t hi
 obtain ⟨j,r,a,b,c,d⟩:=h i t hi
 obtain ⟨r',a',b',c',d'⟩:=shape_get hs a
 exact ⟨j,r',a',by rw [b',b],by rw [c',c],by rw [d',d]⟩
theorem MemOk.shape{m m':List Reg}(h:MemOk m)(hs:mshape m'=mshape m):MemOk m':=by
 refine ⟨by rw [shape_length hs];exact h.1,fun r hr=> ?_⟩
 obtain ⟨j,hj⟩:=List.mem_iff_getElem?.1 hr
 obtain ⟨r',a',_,c',_⟩:=shape_get hs.symm hj
 have:=h.2 r' (List.mem_of_getElem? a')
 omega
theorem KSt.write{w0 wr:World}{b mb:Nat}{S:List Tab}{m:List Reg}{A H T:Nat→Prop}(h:KSt w0 b mb S m A H T wr)(addr n:Int)(v:Nat)(ha:0≤addr)(h64:addr≤18446744073709551615)(hv:v<2^64):
  Calls Tryz.prog 29 #[.pointer (some ⟨mb,0,none⟩), .int .u64 addr, .int .i64 n, .int .u64 v] wr fun e w'=>e= .returned (.int .i64 (mwrite m addr n v).2)∧KSt w0 b mb S (mwrite m addr n v).1 A H T w'∧Fr T wr w':=by
 refine (write_any h.mem addr n v ha h64 hv).mono ?_
 rintro e w' ⟨he,hf,hm⟩
 exact ⟨he,⟨h.maps.fr hf (fun k hk ht=>(h.dis k ht).1 hk) (fun k hk ht=>(h.dis k ht).2 hk),hm,h.dis,h.hold.shape (mshape_mwrite _ _ _ _),(h.fr.any.trans (hf.mono fun k _ hk=>h.new k (.inr hk)):Fr (From w0) w0 w').ours,h.new⟩,hf⟩
theorem hzeros_any(c:Nat)(w:World)(hc:c≤1000000):Calls Tryz.prog 18 #[.int .i64 c] w fun e w'=>e= .returned (.string (zs c))∧Fr No w w':=by
 have HR:Hid (Calls Tryz.prog 43 #[.string ⟨#[0]⟩, .int .i64 c] w fun e w'=>e= .returned (.string (zs c))∧Fr No w w'):=repeat_any c w hc
 go_enter Tryz.func18,Tryz.ntmps18
 go_wp2_with (go_at_call 43;(with_reducible refine (HR.out).mono ?_);rintro e w1 ⟨rfl,hf⟩)
 go_ret
 exact ⟨rfl,hf⟩
theorem pres1_any(b:Int)(d:List UInt8)(f:Bool)(w:World):
  Calls Tryz.prog 42 #[.agg #[.int .u64 b, .string ⟨d.toArray⟩, .bool f]] w fun e w'=>e= .returned (.bool (decide (d= [])))∧Fr No w w':=by
 by_cases hd:d= []
 ·subst hd
  go_enter Tryz.func42,Tryz.ntmps42
  go_wp2_with fail
  go_ret
  exact ⟨rfl,(Fr.refl _ _).alloc _⟩
 ·have q:(⟨d.toArray⟩:ByteArray).toList.isEmpty=false:=by simp [ByteArray.toList_eq];exact hd
  have e:decide (d= [])=false:=by simpa using hd
  rw [e]
  obtain ⟨X,hX⟩:∃X:ByteArray,X=⟨d.toArray⟩:=⟨_,rfl⟩
  rw [←hX] at q ⊢
  clear hd hX e
  go_enter Tryz.func42,Tryz.ntmps42
  go_wp2_with fail
  go_ret
  exact ⟨rfl,(Fr.refl _ _).alloc _⟩
theorem idxf0_regs(g off n c f:Nat)(l:List Reg)(p:Reg→Bool)(w:World)(hn:l.length=n)(hm:n≤1000000)(hc:CellsAt w g off (aflat l))(he:∀args w,(callFunc f args).run Tryz.prog w= .ok (.enter f args) w)
  (hp:∀x∈l,∀W,Fr No w W→Calls Tryz.prog f #[.agg #[.int .u64 x.base, .string ⟨x.data.toArray⟩, .bool x.free]] W fun e w'=>e= .returned (.bool (p x))∧Fr No W w'):
  Calls Tryz.prog 74 #[.slice (some ⟨g,off,none⟩) n c, .func (.func f) #[] #[]] w fun e w'=>e= .returned (.int .i64 (optI (l.findIdx? p)))∧Fr No w w':=by
 have HC:=Lib.hid hc
 have HN:=Lib.hid hn
 have HP:=Lib.hid hp
 clear hc hn hp
 go_enter Tryz.func74,Tryz.ntmps74
 go_wp2_with fail
 go_loopw [8] (fun i wr=>∃k:Nat,k≤n∧i= .int .i64 k∧Hid (Fr No w wr)∧Hid (∀(j:Nat) x,j<k→l[j]? =some x→p x=false)) (fun i _=>n-(intOf i).toNat)
 case atStart=>exact ⟨0,Nat.zero_le _,rfl,Fr.refl _ _,fun j _ h=>absurd h (Nat.not_lt_zero _)⟩
 case round=>
  obtain ⟨k,hk,rfl,HF,HJ⟩:=hrel
  by_cases hlt:k<n
  ·obtain ⟨x,hx⟩:∃x,l[k]? =some x:=⟨l[k]'(by rw [HN.out];exact hlt),List.getElem?_eq_getElem _⟩
   obtain ⟨k0,k1,k2⟩:=areg_cells (HF.out.cells HC.out id) hx
   have HX:=Lib.hid hx
   have HPX:=Lib.hid (HP.out x (List.mem_of_getElem? hx) wr HF.out)
   obtain ⟨t,ht⟩:∃t,p x=t:=⟨_,rfl⟩
   rw [ht] at HPX
   have HT:=Lib.hid ht
   clear ht hx
   cases t with
   |true=>
    have HFI:Hid (l.findIdx? p=some k):=Lib.hid (by
     rw [List.findIdx?_eq_some_iff_getElem]
     have hkl:k<l.length:=by rw [HN.out];exact hlt
     have:=HX.out
     rw [List.getElem?_eq_getElem hkl] at this
     refine ⟨hkl,by rw [Option.some.inj this];exact HT.out,fun j hj=> ?_⟩
     have:=HJ.out j _ hj (List.getElem?_eq_getElem (by omega))
     simpa using this)
    go_wp2_with fail
    refine (HPX.out).mono ?_
    rintro e w5 ⟨rfl,hf5⟩
    go_wp2_with fail
    go_ret
    exact ⟨by rw [HFI.out];rfl,HF.out.trans hf5⟩
   |false=>
    have HJ2:Hid (∀(j:Nat) y,j<k+1→l[j]? =some y→p y=false):=fun j y hj hy=>by
     by_cases e:j=k
     ·subst e
      rw [HX.out] at hy
      obtain rfl:=Option.some.inj hy
      exact HT.out
     ·exact HJ.out j y (by omega) hy
    go_wp2_with fail
    refine (HPX.out).mono ?_
    rintro e w5 ⟨rfl,hf5⟩
    go_wp2_with fail
    go_roundw
    case rel=>exact ⟨k+1,by omega,by go_num,HF.out.trans hf5,HJ2⟩
    case measure=>simp [intOf]<;>omega
  ·obtain rfl:k=n:=by omega
   have HFI:Hid (l.findIdx? p=none):=Lib.hid (by
    rw [List.findIdx?_eq_none_iff]
    intro x hx
    obtain ⟨j,hj,rfl⟩:=List.getElem_of_mem hx
    exact HJ.out j _ (by rw [←HN.out];exact hj) (List.getElem?_eq_getElem hj))
   go_wp2_with fail
   go_ret
   exact ⟨by rw [HFI.out];rfl,HF.out⟩
theorem idx_present(l:List Reg)(g c:Nat)(w:World)(hm:l.length≤1000000)(hc:CellsAt w g 0 (aflat l)):
  Calls Tryz.prog 74 #[.slice (some ⟨g,0,none⟩) l.length c, .func (.func 42) #[] #[]] w fun e w'=>e= .returned (.int .i64 (optI (l.findIdx? fun r=>decide (r.data= []))))∧Fr No w w':=
 idxf0_regs g 0 l.length c 42 l _ w rfl hm hc (enters_of Tryz.func42 (by kernel_rfl) rfl) (fun x _ W _=>pres1_any x.base x.data x.free W)
theorem delf_none(v fv:Value)(w:World)(h:Calls Tryz.prog 74 #[v,fv] w fun e w'=>e= .returned (.int .i64 (-1))∧Fr No w w'):
  Calls Tryz.prog 41 #[v,fv] w fun e w'=>e= .returned v∧Fr No w w':=by
 have H:=Lib.hid h
 clear h
 go_enter Tryz.func41,Tryz.ntmps41
 go_wp2_with (go_at_call 74;(with_reducible refine (H.out).mono ?_);rintro e w1 ⟨rfl,hf⟩)
 go_ret
 exact ⟨rfl,hf⟩
theorem zero_areg(w:World):(zeroValue 69).run Tryz.prog w= .ok (.agg #[.int .u64 0, .string ⟨#[]⟩, .bool false]) w:=by
 obtain ⟨i0,hi,hz0,hz1,hz2⟩:=info_parts Tryz.info_areg
 simp [zeroValue,typeInfo,hi,hz0]
theorem clear_run(g n c:Nat)(x y z:Value)(w:World)(c1:w.cell? ⟨g,9,none⟩=some x)(c2:w.cell? ⟨g,10,none⟩=some y)(c3:w.cell? ⟨g,11,none⟩=some z)(f1:w.frozen? ⟨g,9,none⟩=false)(f2:w.frozen? ⟨g,10,none⟩=false)(f3:w.frozen? ⟨g,11,none⟩=false)(ty:TypeId)(hn:n=1):
  (Builtin.clear_ #[65] ty #[.slice (some ⟨g,9,none⟩) n c]).run Tryz.prog w= .ok (.tuple #[]) (((w.setCell ⟨g,9,none⟩ (.int .u64 0)).setCell ⟨g,10,none⟩ (.string ⟨#[]⟩)).setCell ⟨g,11,none⟩ (.bool false)):=by
 subst hn
 have hst:=run_storeCells_cells (P:=Tryz.prog) g 9 [.int .u64 0, .string ⟨#[]⟩, .bool false] 0 w
  (by intro j hj;match j,hj with|0,_=>simp [c1]|1,_=>simp [c2]|2,_=>simp [c3]|k+3,h=>simp at h;omega)
  (by intro j hj;match j,hj with|0,_=>simp [f1]|1,_=>simp [f2]|2,_=>simp [f3]|k+3,h=>simp at h;omega)
  (by intro v hv;simp at hv;rcases hv with rfl|rfl|rfl<;>rfl)
 simp only [Nat.add_zero] at hst
 have hzc:(Builtin.zeroCells (Value.agg #[.int .u64 0, .string ⟨#[]⟩, .bool false]).cells 1).toList= [.int .u64 0, .string ⟨#[]⟩, .bool false]:=by kernel_rfl
 simp [Builtin.clear_,run_underlying Tryz.underlying65,zero_areg,hzc,hst,World.setCells]
theorem delf_last(g:Nat)(fv:Value)(x y z:Value)(w:World)(hc:w.cell? ⟨g,9,none⟩=some x∧w.cell? ⟨g,10,none⟩=some y∧w.cell? ⟨g,11,none⟩=some z)(hz:∀j,w.frozen? ⟨g,j,none⟩=false)
  (h:Calls Tryz.prog 74 #[.slice (some ⟨g,0,none⟩) 4 4,fv] w fun e w'=>e= .returned (.int .i64 3)∧Fr No w w'):
  Calls Tryz.prog 41 #[.slice (some ⟨g,0,none⟩) 4 4,fv] w fun e w'=>e= .returned (.slice (some ⟨g,0,none⟩) 3 4)∧∃w1,Fr No w w1∧w'=((w1.setCell ⟨g,9,none⟩ (.int .u64 0)).setCell ⟨g,10,none⟩ (.string ⟨#[]⟩)).setCell ⟨g,11,none⟩ (.bool false):=by
 have H:=Lib.hid h
 have HC:Hid (∀W,Fr No w W→W.cell? ⟨g,9,none⟩=some x∧W.cell? ⟨g,10,none⟩=some y∧W.cell? ⟨g,11,none⟩=some z∧W.frozen? ⟨g,9,none⟩=false∧W.frozen? ⟨g,10,none⟩=false∧W.frozen? ⟨g,11,none⟩=false):=fun W hW=>
  ⟨hW.cell hc.1 id,hW.cell hc.2.1 id,hW.cell hc.2.2 id,by rw [hW.frozen hc.1 id];exact hz 9,by rw [hW.frozen hc.2.1 id];exact hz 10,by rw [hW.frozen hc.2.2 id];exact hz 11⟩
 clear h hc hz
 go_enter Tryz.func41,Tryz.ntmps41
 go_wp2_with fail
 refine (H.out).mono ?_
 rintro e w1 ⟨rfl,hf⟩
 obtain ⟨c1,c2,c3,c4,c5,c6⟩:=HC.out w1 hf
 have HF:=Lib.hid hf
 clear hf H HC
 go_wp2_with fail
 refine wp_loop_rounds 1 ?_
 rw [rounds_succ]
 have HCL:=clear_run g 1 1 x y z w1 c1 c2 c3 c4 c5 c6
 go_wp2_with fail
 go_ret
 exact ⟨rfl,w1,HF.out,rfl⟩
theorem ownsRow_less{w:World}{base g:Nat}{e:TypeId}{xs:List Value}(h:w.ownsRow base e 3 (.slice (some ⟨g,0,none⟩) 4 4) 4 xs):w.ownsRow base e 3 (.slice (some ⟨g,0,none⟩) 3 4) 3 (xs.take 9):=by
 have h1:=h.1
 refine ⟨by rw [List.length_take,h1];rfl,?_⟩
 rcases h.2 with ⟨e1,_⟩|⟨g',cap,cur,hv,hb,hg,hnc,hcm,hsz,hx⟩
 ·cases e1
 ·injection hv with e1 e2 e3
  cases e1
  subst e3
  refine .inr ⟨g,4,cur,rfl,hb,hg,by omega,hcm,hsz,?_⟩
  rw [←hx,List.take_take]
  rfl
def presL(r0 r1 r2 r3:Reg):List Reg:=if r3.data= [] then [r0,r1,r2] else [r0,r1,r2,r3]
def PresOut(r0 r1 r2 r3:Reg)(g base:Nat)(w:World)(v':Value)(w':World):Prop:=
 w'.ownsRow base 69 3 v' (presL r0 r1 r2 r3).length (aflat (presL r0 r1 r2 r3))∧Fr (fun k=>k=g) w w'
theorem find_pres(r0 r1 r2 r3:Reg)(h0:r0.data≠ [])(h1:r1.data≠ [])(h2:r2.data≠ [])(h3:r3.data= []): [r0,r1,r2,r3].findIdx? (fun r=>decide (r.data= []))=some 3:=by
 simp [List.findIdx?_cons,h0,h1,h2,h3]
theorem find_pres'(r0 r1 r2 r3:Reg)(h0:r0.data≠ [])(h1:r1.data≠ [])(h2:r2.data≠ [])(h3:r3.data≠ []): [r0,r1,r2,r3].findIdx? (fun r=>decide (r.data= []))=none:=by
 simp [List.findIdx?_cons,h0,h1,h2,h3]
theorem presL_pos(r0 r1 r2 r3:Reg)(h3:r3.data= []):presL r0 r1 r2 r3= [r0,r1,r2]:=if_pos h3
theorem presL_neg(r0 r1 r2 r3:Reg)(h3:r3.data≠ []):presL r0 r1 r2 r3= [r0,r1,r2,r3]:=if_neg h3
theorem present_del(r0 r1 r2 r3:Reg)(g base:Nat)(w:World)(own:w.ownsRow base 69 3 (.slice (some ⟨g,0,none⟩) 4 4) 4 (aflat [r0,r1,r2,r3]))(h0:r0.data≠ [])(h1:r1.data≠ [])(h2:r2.data≠ []):
  Calls Tryz.prog 41 #[.slice (some ⟨g,0,none⟩) 4 4, .func (.func 42) #[] #[]] w fun e w'=>∃v',e= .returned v'∧PresOut r0 r1 r2 r3 g base w v' w':=by
 obtain ⟨g',cap,hv,_,hc⟩:=cells_of_owns own (by omega)
 injection hv with e1 e2 e3
 cases e1
 have hi:=idx_present [r0,r1,r2,r3] g 4 w (by simp) hc
 by_cases h3:r3.data= []
 ·rw [find_pres r0 r1 r2 r3 h0 h1 h2 h3] at hi
  have c9:=hc 9 _ rfl
  have c10:=hc 10 _ rfl
  have c11:=hc 11 _ rfl
  rw [Nat.zero_add] at c9 c10 c11
  refine (delf_last g _ _ _ _ w ⟨c9,c10,c11⟩ (fun j=>own.frozenAt j) hi).mono ?_
  rintro e w' ⟨he,w1,hf1,rfl⟩
  have o1:=ownsRow_fr own hf1 (fun _ _=>id)
  have o2:=((o1.stored 9 (.int .u64 0)).1.stored 10 (.string ⟨#[]⟩)).1.stored 11 (.bool false)
  refine ⟨_,he,?_⟩
  unfold PresOut
  rw [presL_pos r0 r1 r2 r3 h3]
  refine ⟨ownsRow_less o2.1,?_⟩
  exact ((((hf1.any:Fr (fun k=>k=g) w w1).setCell (p:=⟨g,9,none⟩) (.inr rfl) _).setCell (p:=⟨g,10,none⟩) (.inr rfl) _).setCell (p:=⟨g,11,none⟩) (.inr rfl) _)
 ·rw [find_pres' r0 r1 r2 r3 h0 h1 h2 h3] at hi
  refine (delf_none _ _ w hi).mono ?_
  rintro e w' ⟨he,hf1⟩
  refine ⟨_,he,?_⟩
  unfold PresOut
  rw [presL_neg r0 r1 r2 r3 h3]
  exact ⟨ownsRow_fr own hf1 (fun _ _=>id),hf1.any⟩
theorem present_any(r0 r1 r2 r3:Reg)(g base:Nat)(w:World)(own:w.ownsRow base 69 3 (.slice (some ⟨g,0,none⟩) 4 4) 4 (aflat [r0,r1,r2,r3]))(h0:r0.data≠ [])(h1:r1.data≠ [])(h2:r2.data≠ []):
  Calls Tryz.prog 16 #[.slice (some ⟨g,0,none⟩) 4 4] w fun e w'=>∃v',e= .returned v'∧PresOut r0 r1 r2 r3 g base w v' w':=by
 have HK:=Lib.hid (present_del r0 r1 r2 r3 g base w own h0 h1 h2)
 clear own h0 h1 h2
 go_enter Tryz.func16,Tryz.ntmps16
 go_wp2_with fail
 refine (HK.out).mono ?_
 rintro e w1 ⟨v',rfl,ho⟩
 have HO:=Lib.hid ho
 clear ho
 go_wp2_with fail
 go_ret
 exact ⟨_,rfl,HO.out⟩
structure CatIt where
 a:Option Addr
 n:Nat
 c:Nat
 xs:List Value
def catN(l:List CatIt):Nat:=(l.map CatIt.n).sum
def catX(l:List CatIt):List Value:=l.flatMap CatIt.xs
theorem catN_take(l:List CatIt)(k:Nat){x:CatIt}(h:l[k]? =some x):catN (l.take (k+1))=catN (l.take k)+x.n:=by
 unfold catN;rw [List.take_add_one,h];simp
theorem catX_take(l:List CatIt)(k:Nat){x:CatIt}(h:l[k]? =some x):catX (l.take (k+1))=catX (l.take k)++x.xs:=by
 unfold catX;rw [List.take_add_one,h];simp
theorem catN_le:∀(l:List CatIt) (k:Nat),catN (l.take k)≤catN l
 | [],_=>by simp [catN]
 |x::l,0=>by simp [catN]
 |x::l,k+1=>by
  have:=catN_le l k
  unfold catN at*
  simp only [List.take_succ_cons,List.map_cons,List.sum_cons]
  omega
theorem grow_nil(n:Nat)(h1:1≤n)(hn:n≤1000000)(w:World):
  Calls Tryz.prog 49 #[.slice none 0 0, .int .i64 n] w fun e w'=>∃c,e= .returned (.slice (some ⟨w.heap.size,0,none⟩) 0 c)∧w'.ownsRow w.heap.size 69 3 (.slice (some ⟨w.heap.size,0,none⟩) 0 c) 0 []∧Fr No w w':=by
 obtain ⟨i0,hi,hz0,hz1,hz2⟩:=info_parts Tryz.info_areg
 have h:Calls Tryz.prog 49 #[.slice none 0 0, .int .i64 n] w fun e w'=>
   e= .returned (.slice (some ⟨w.heap.size,0,none⟩) 0 (grownCap w (0+n) 0 69))∧
   w'=w.drew.alloc (.cells (([]:List Value).toArray++Builtin.zeroCells (Value.agg #[.int .u64 0, .string ⟨#[]⟩, .bool false]).cells (0+n-0)++Builtin.zeroCells (Value.agg #[.int .u64 0, .string ⟨#[]⟩, .bool false]).cells (grownCap w (0+n) 0 69-(0+n))) 69):=
  Any8.slices_Grow_grow Tryz.growReg i0 _ hi hz0 (by rw [hz1];decide) none 0 0 n [] w (Nat.le_refl _) (by omega) (by rw [hz2];omega) (by omega) (by simp) (fun _=>rfl) (fun a h=>by cases h)
 refine h.mono ?_
 rintro e w' ⟨rfl,rfl⟩
 have hge:=grownCap_ge w (0+n) 0 69
 have hle:=grownCap_le_maxLen w (0+n) 0 69 (by unfold maxLen;omega)
 refine ⟨_,rfl,⟨rfl, .inr ⟨w.heap.size,_,_,rfl,Nat.le_refl _,heap_alloc_new w.drew _,Nat.zero_le _,hle,?_,by simp⟩⟩,((Fr.refl No w).drew).alloc _⟩
 simp only [Array.size_append,size_zeroCells]
 show 0+(0+n-0)*3+_*3=_*3
 omega
theorem concat_walk(go c0 m N:Nat)(l:List CatIt)(w:World)(hl:l.length=m)(hm:m≤1000)(hN:catN l=N)(hN1:1≤N)(hN2:N≤100000)
  (hc:∀k x,l[k]? =some x→w.cell? ⟨go,k,none⟩=some (.slice x.a x.n x.c)) (hx:∀x∈l,(∀W,Fr No w W→SrcAt W (.slice x.a x.n x.c) x.n x.xs)∧x.xs.length=x.n*3∧∀u∈x.xs,u.oneCell'=true):
  Calls Tryz.prog 21 #[.slice (some ⟨go,0,none⟩) m c0] w fun e w'=>∃v,e= .returned v∧Hid (w'.ownsRow w.heap.size 69 3 v N (catX l)∧Fr No w w'):=by
 obtain ⟨i0,hi,hz0,hz1,hz2⟩:=info_parts Tryz.info_areg
 have HL:=Lib.hid hl
 have HN:=Lib.hid hN
 have HC:Hid (∀k x W,l[k]? =some x→Fr No w W→W.cell? ⟨go,k,none⟩=some (.slice x.a x.n x.c)):=fun k x W h hW=>hW.cell (hc k x h) id
 have HX:=Lib.hid hx
 have HG:Hid (∀W,Calls Tryz.prog 49 #[.slice none 0 0, .int .i64 N] W fun e w'=>∃c,e= .returned (.slice (some ⟨W.heap.size,0,none⟩) 0 c)∧w'.ownsRow W.heap.size 69 3 (.slice (some ⟨W.heap.size,0,none⟩) 0 c) 0 []∧Fr No W w'):=fun W=>grow_nil N hN1 (by omega) W
 clear hl hc hx hN
 go_enter Tryz.func21,Tryz.ntmps21
 go_wp2_with fail
 go_loop [3,5,11] (fun s3 _ s11=>∃k:Nat,k≤m∧s11= .int .i64 k∧s3= .int .i64 (catN (l.take k))) (fun _ _ s11=>m-(intOf s11).toNat)
 case atStart=>exact ⟨0,Nat.zero_le _,rfl,rfl⟩
 case round=>
  obtain ⟨k,hk,rfl,rfl⟩:=hrel
  by_cases hlt:k<m
  ·obtain ⟨x,hx⟩:∃x,l[k]? =some x:=⟨l[k]'(by rw [HL.out];exact hlt),List.getElem?_eq_getElem _⟩
   have hcell:=HC.out k x w hx (Fr.refl _ _)
   have htk:=catN_take l k hx
   have hle:=catN_le l (k+1)
   rw [HN.out] at hle
   have HTK:=Lib.hid htk
   obtain ⟨T,hT⟩:∃T,catN (l.take k)=T:=⟨_,rfl⟩
   rw [hT] at HTK ⊢
   have hsum:T+x.n≤100000:=by have:=HTK.out;omega
   have f1:IntKind.i64.wrap ((T:Int)+(x.n:Int))=(T:Int)+(x.n:Int):=IntWalk.i64_in _ (by omega)
   obtain ⟨xa,xn,xc,xx⟩:=x
   simp only at hcell hsum f1 HTK
   have c1:(0:Int)≤(k:Int):=by omega
   have c2:(k:Int)<(m:Int):=by omega
   have q1:decide ((T:Int)+(xn:Int)<0)=false:=by simp;omega
   clear hx htk hle hT
   go_wp2_with fail
   go_round
   case rel=>exact ⟨k+1,by omega,by go_num,by rw [HTK.out];go_num⟩
   case measure=>simp [intOf]<;>omega
  ·obtain rfl:k=m:=by omega
   have hall:catN (l.take k)=N:=by rw [List.take_of_length_le (by rw [HL.out];exact Nat.le_refl _)];exact HN.out
   rw [hall]
   clear hall
   go_wp2_with fail
   refine (HG.out _).mono ?_
   rintro e w1 ⟨cg,rfl,ho,hf1⟩
   have HO:=Lib.hid ho
   have HF1:=Lib.hid hf1
   clear ho hf1 HG
   go_wp2_with fail
   go_loopw [6,8,27] (fun s6 _ s27 wr=>∃j:Nat,j≤k∧s27= .int .i64 j∧Hid (wr.ownsRow w.heap.size 69 3 s6 (catN (l.take j)) (catX (l.take j))∧Fr No w wr)) (fun _ _ s27 _=>k-(intOf s27).toNat)
   case atStart=>exact ⟨0,Nat.zero_le _,rfl,HO.out,HF1.out⟩
   case round=>
    clear HO HF1
    obtain ⟨j,hj,rfl,HI⟩:=hrel
    by_cases hlj:j<k
    ·obtain ⟨x,hx⟩:∃x,l[j]? =some x:=⟨l[j]'(by rw [HL.out];exact hlj),List.getElem?_eq_getElem _⟩
     obtain ⟨hs,hlen,hone⟩:=HX.out x (List.mem_of_getElem? hx)
     have hcell:=HC.out j x wr hx HI.out.2
     have htk:=catN_take l j hx
     have htx:=catX_take l j hx
     have hle:=catN_le l (j+1)
     rw [HN.out] at hle
     have HTK:=Lib.hid htk
     have HTX:=Lib.hid htx
     have HS:=Lib.hid hs
     have HLEN:=Lib.hid hlen
     have HONE:=Lib.hid hone
     obtain ⟨T,hT⟩:∃T,catN (l.take j)=T:=⟨_,rfl⟩
     obtain ⟨XX,hXX⟩:∃XX,catX (l.take j)=XX:=⟨_,rfl⟩
     rw [hT] at HTK HI
     rw [hXX] at HTX HI
     have hsum:T+x.n≤100000:=by have:=HTK.out;omega
     obtain ⟨xa,xn,xc,xx⟩:=x
     simp only at hcell hsum HTK HTX HS HLEN HONE
     have HOWN:=Lib.hid HI.out.1
     have HFR:=Lib.hid HI.out.2
     have c1:(0:Int)≤(j:Int):=by omega
     have c2:(j:Int)<(k:Int):=by omega
     clear hx hs hlen hone htk htx hle hT hXX HI HX
     go_wp2_with (at_builtin;refine wpList_append_src rfl (.tmp 31) (.tmp 32) 65 rfl w.heap.size 69 i0 _ 3 32 Tryz.underlying65 hi hz0 hz1 hz2 rfl (by decide) u6 T XX rfl HOWN.out (.slice xa xn xc) xn xx rfl (HS.out _ HFR.out) HLEN.out HONE.out (by unfold maxLen;omega) (by omega) HFR.out.size ?_;intro v' w2 own2 fr2;have HE:Hid (w2.ownsRow w.heap.size 69 3 v' (T+xn) (XX++xx)∧Fr No w w2):=⟨own2,((HFR.out.any.trans (fr2.mono fun q _ hq=>OwnOf.ge HOWN.out hq)):Fr (From w) w w2).ours⟩;clear own2 fr2)
     go_roundw
     case rel=>exact ⟨j+1,by omega,by go_num,by rw [HTK.out,HTX.out];exact HE⟩
     case measure=>simp [intOf]<;>omega
    ·obtain rfl:j=k:=by omega
     have HE:=HI
     rw [List.take_of_length_le (by rw [HL.out];exact Nat.le_refl _),HN.out] at HE
     clear HI HX HC
     go_wp2_with fail
     go_ret
     exact ⟨_,rfl,HE⟩
theorem KSt.updates{w0 wr:World}{b mb:Nat}{S:List Tab}{m:List Reg}{A H T:Nat→Prop}(h:KSt w0 b mb S m A H T wr)(i:Int)(key val:List UInt8)(r:Int)(hr:(mupdate S m i key val).2=r):
  Calls Tryz.prog 23 #[.pointer (some ⟨b,0,none⟩), .int .i64 i, .string ⟨key.toArray⟩, .string ⟨val.toArray⟩] wr fun e w'=>e= .returned (.int .i64 r)∧Hid (KSt w0 b mb (mupdate S m i key val).1.1 (mupdate S m i key val).1.2 A H T w')∧Fr (Or2 H T) wr w':=
 h.update i key val _ _ r (by rw [←hr])
theorem KSt.deletes{w0 wr:World}{b mb:Nat}{S:List Tab}{m:List Reg}{A H T:Nat→Prop}(h:KSt w0 b mb S m A H T wr)(i:Int)(key:List UInt8)(r:Int)(hr:(mdelete S i key).2=r):
  Calls Tryz.prog 100 #[.pointer (some ⟨b,0,none⟩), .int .i64 i, .string ⟨key.toArray⟩] wr fun e w'=>e= .returned (.int .i64 r)∧Hid (KSt w0 b mb (mdelete S i key).1 m A H T w')∧Fr H wr w':=
 h.delete i key _ r (by rw [←hr])
theorem Tryz.info_cu64:(Tryz.prog.info? 25).map (fun i=>(i.zero,i.size,i.bytes))=some (some (.int .u64 0),1,8):=by kernel_rfl
theorem slice_ne_u64(w:World)(a:Addr)(n c:Nat):(binOp .eql 22 (.slice (some a) n c) (.slice none 0 0)).run Tryz.prog w= .ok (.bool false) w:=Lib.run_eql_slice_nil w 22 25 (some a) n c 0 0 Tryz.underlying22
theorem slice_eq_u64(w:World)(n c:Nat):(binOp .eql 22 (.slice none n c) (.slice none 0 0)).run Tryz.prog w= .ok (.bool true) w:=Lib.run_eql_slice_nil w 22 25 none n c 0 0 Tryz.underlying22
theorem clone_u64(g off n c:Nat)(vs:List Value)(w:World)(hl:vs.length=n*1)(h1:1≤n)(hm:n≤1000000)(hc:CellsAt w g off vs)(hone:∀u∈vs,u.oneCell'=true):
  Calls Tryz.prog 25 #[.slice (some ⟨g,off,none⟩) n c] w (ClonePost n vs w 1):=by
 have HC:=Lib.hid hc
 have HL:=Lib.hid hl
 clear hc hl
 have kn:=fun w=>slice_ne_u64 w ⟨g,off,none⟩ n c
 obtain ⟨i0,hi,hz0,hz1,hz2⟩:=info_parts Tryz.info_cu64
 have hown:(w.alloc (.cells #[] 25)).ownsRow w.heap.size 25 1 (.slice (some ⟨w.heap.size,0,none⟩) 0 0) 0 []:=World.ownsRow_made w #[] 0 (Nat.le_refl _) (by unfold maxLen;omega) rfl
 have hnews:∀j u,vs[j]? =some u→(w.alloc (.cells #[] 25)).cell? ((⟨g,off,none⟩:Addr).add j)=some u:=fun j u hj=>by
  rw [addr_add];exact ((Fr.refl No w).alloc _).cell (HC.out j u hj) id
 go_enter Tryz.func25,Tryz.ntmps25
 go_wp2_with (at_builtin;refine wpList_append_lies _ rfl _ _ 22 rfl w.heap.size 25 i0 _ 1 8 Tryz.underlying22 hi hz0 hz1 hz2 rfl (by decide) _ 0 [] rfl hown ⟨g,off,none⟩ n c vs rfl HL.out hnews hone (by omega) (by unfold maxLen;omega) (by omega) (by simp) _ rfl ?_;intro gg cap2 w1 hown2 hgrow hat hlt2)
 go_ret
 rw [Nat.zero_add,List.nil_append] at hown2
 have:=clone_post (v:= .slice none 0 0) hown2 hgrow hlt2
 simpa using this
theorem clone_u64_nil(n c:Nat)(w:World):Calls Tryz.prog 25 #[.slice none n c] w fun e w'=>e= .returned (.slice none 0 0)∧w=w':=by
 have kn:=fun w=>slice_eq_u64 w n c
 go_enter Tryz.func25,Tryz.ntmps25
 go_wp2_with fail
 go_ret
 exact ⟨rfl,rfl⟩
theorem clone_u64_zero'(a:Addr)(c:Nat)(w:World):Calls Tryz.prog 25 #[.slice (some a) 0 c] w fun e w'=>e= .returned (.slice (some ⟨w.heap.size,0,none⟩) 0 0)∧Fr No w w'∧w.heap.size<w'.heap.size:=by
 have kn:=fun w=>slice_ne_u64 w a 0 c
 go_enter Tryz.func25,Tryz.ntmps25
 go_wp2_with fail
 go_ret
 exact ⟨rfl,(Fr.refl _ _).alloc _,by simp only [World.alloc,Array.size_push];omega⟩
def U64sIn(w:World)(v:Value)(l:List Int):Prop:=(l= []∧∃a c,v= .slice a 0 c)∨∃g off cap,v= .slice (some ⟨g,off,none⟩) l.length cap∧l.length≤cap∧CellsAt w g off (l.map (Value.int .u64))
theorem U64sIn.form{w:World}{v:Value}{l:List Int}(h:U64sIn w v l):∃a c,v= .slice a l.length c:=by
 rcases h with ⟨rfl,a,c,rfl⟩|⟨g,off,cap,rfl,hl,hc⟩
 ·exact ⟨a,c,rfl⟩
 ·exact ⟨_,_,rfl⟩
def Apart(S:Nat→Prop)(v:Value):Prop:=∀k,v.ownBlock=some k→¬S k
theorem U64sIn.fr{S:Nat→Prop}{w w':World}{v:Value}{l:List Int}(h:U64sIn w v l)(hf:Fr S w w')(hn:Apart S v):U64sIn w' v l:=by
 rcases h with h|⟨g,off,cap,rfl,hl,hc⟩
 ·exact .inl h
 ·exact .inr ⟨g,off,cap,rfl,hl,hf.cells hc (hn g rfl)⟩
theorem MapsIn.frS{S:Nat→Prop}{w w':World}{v:Value}{l:List MapD}(h:MapsIn w v l)(hf:Fr S w w')(hn:Apart S v):MapsIn w' v l:=by
 rcases h with h|⟨g,off,cap,rfl,hc⟩
 ·exact .inl h
 ·exact .inr ⟨g,off,cap,rfl,hf.cells hc (hn g rfl)⟩
theorem RegsAt.frS{S:Nat→Prop}{w w':World}{v:Value}{l:List Reg}(h:RegsAt w v l)(hf:Fr S w w')(hn:Apart S v):RegsAt w' v l:=by
 refine ⟨h.1,?_⟩
 rcases h.2 with h|⟨g,off,cap,rfl,hc⟩
 ·exact .inl h
 ·exact .inr ⟨g,off,cap,rfl,hf.cells hc (hn g rfl)⟩
theorem clone_maps_zero'(a:Addr)(c:Nat)(w:World):Calls Tryz.prog 24 #[.slice (some a) 0 c] w fun e w'=>e= .returned (.slice (some ⟨w.heap.size,0,none⟩) 0 0)∧Fr No w w'∧w.heap.size<w'.heap.size:=by
 have kn:=fun w=>slice_ne_maps w a 0 c
 go_enter Tryz.func24,Tryz.ntmps24
 go_wp2_with fail
 go_ret
 exact ⟨rfl,(Fr.refl _ _).alloc _,by simp only [World.alloc,Array.size_push];omega⟩
theorem clone_mapsIn(v:Value)(l:List MapD)(W:World)(h:MapsIn W v l)(hm:l.length≤1000000):
  Calls Tryz.prog 24 #[v] W fun e w'=>∃a c,e= .returned (.slice a l.length c)∧Hid (MapsIn w' (.slice a l.length c) l∧Fr No W w'∧∀k,(Value.slice a l.length c).ownBlock=some k→W.heap.size≤k∧k<w'.heap.size):=by
 by_cases h0:l= []
 ·subst h0
  obtain ⟨a,c,rfl⟩:=h.form
  cases a with
  |none=>
   refine (clone_maps_nil 0 c W).mono ?_
   rintro e w' ⟨he,rfl⟩
   exact ⟨_,_,he, .inl ⟨rfl,_,_,rfl⟩,Fr.refl _ _,fun k hk=>by simp [Value.ownBlock] at hk⟩
  |some a=>
   refine (clone_maps_zero' a c W).mono ?_
   rintro e w' ⟨he,hf,hs⟩
   exact ⟨_,_,he, .inl ⟨rfl,_,_,rfl⟩,hf,fun k hk=>by simp [Value.ownBlock] at hk;omega⟩
 ·rcases h with ⟨rfl,_⟩|⟨g,off,cap,rfl,hc⟩
  ·exact absurd rfl h0
  ·refine (clone_maps g off l.length cap (mflat l) W (by rw [mflat_length]) (by have:=List.length_pos_iff.2 h0;omega) hm hc (mflat_one l)).mono ?_
   rintro e w' ⟨gg,cap2,he,h1,h2,h3,_,_,hf⟩
   exact ⟨_,_,he, .inr ⟨gg,0,cap2,rfl,h3⟩,hf,fun k hk=>by simp [Value.ownBlock] at hk;omega⟩
theorem clone_draws(v:Value)(l:List Int)(W:World)(h:U64sIn W v l)(hm:l.length≤1000000):
  Calls Tryz.prog 25 #[v] W fun e w'=>∃a c,e= .returned (.slice a l.length c)∧Hid (U64sIn w' (.slice a l.length c) l∧Fr No W w'∧∀k,(Value.slice a l.length c).ownBlock=some k→W.heap.size≤k∧k<w'.heap.size):=by
 by_cases h0:l= []
 ·subst h0
  obtain ⟨a,c,rfl⟩:=h.form
  cases a with
  |none=>
   refine (clone_u64_nil 0 c W).mono ?_
   rintro e w' ⟨he,rfl⟩
   exact ⟨_,_,he, .inl ⟨rfl,_,_,rfl⟩,Fr.refl _ _,fun k hk=>by simp [Value.ownBlock] at hk⟩
  |some a=>
   refine (clone_u64_zero' a c W).mono ?_
   rintro e w' ⟨he,hf,hs⟩
   exact ⟨_,_,he, .inl ⟨rfl,_,_,rfl⟩,hf,fun k hk=>by simp [Value.ownBlock] at hk;omega⟩
 ·rcases h with ⟨rfl,_⟩|⟨g,off,cap,rfl,hl,hc⟩
  ·exact absurd rfl h0
  ·refine (clone_u64 g off l.length cap (l.map (Value.int .u64)) W (by simp) (by have:=List.length_pos_iff.2 h0;omega) hm hc (by intro u hu;obtain ⟨x,_,rfl⟩:=List.mem_map.1 hu;rfl)).mono ?_
   rintro e w' ⟨gg,cap2,he,h1,h2,h3,_,h5,hf⟩
   exact ⟨_,_,he, .inr ⟨gg,0,cap2,rfl,h5,h3⟩,hf,fun k hk=>by simp [Value.ownBlock] at hk;omega⟩
theorem maps_on(w0:World)(l:List MapD)(m:List Reg)(h:mayL l=true)(hh:holdsB (mregsOf l) m=true)(hok:MemOk m)(v:Value)(mb:Nat)(T:Nat→Prop)(W:World)(hv:MapsIn W v l)(hm:MemAt W mb m T)(hT:∀k,T k→From w0 k∧k<W.heap.size)(hf:Fr No w0 W):
  Calls Tryz.prog 22 #[v, .pointer (some ⟨mb,0,none⟩)] W fun e w'=>∃b A H,e= .returned (.tuple #[.pointer (some ⟨b,0,none⟩), .int .i64 0])∧Hid (KSt w0 b mb (l.map Tab.new) m A H T w'∧(∀k,A k∨H k∨T k→k<w'.heap.size)∧(∀k,H k→W.heap.size≤k)∧(∀k,A k→W.heap.size≤k)∧Fr No W w'):=by
 have h4:=((mayL_iff l).1 h).1
 refine (mnew_any hm hok v l hv (by omega)).mono ?_
 intro e w' hq
 unfold NewQ at hq
 rw [if_pos ⟨h,hh⟩] at hq
 obtain ⟨b,he,⟨A,H,ha,hA,hH⟩,hf2⟩:=hq
 have hsz:=hf.size
 have hsz2:=hf2.size
 refine ⟨b,A,H,he,⟨ha,hm.fr hf2 (fun _ _=>id),fun k hk=>⟨fun hk2=> ?_,fun hk2=> ?_⟩,holds_new h hh,hf.trans hf2,fun k hk=> ?_⟩,(fun k hk=> ?_),(fun k hk=>(hH k hk).1),(fun k hk=> ?_),hf2⟩
 ·have:=(hT k hk).2
  rcases hA k hk2 with h|h
  ·omega
  ·exact h
 ·have:=(hT k hk).2
  have:=hH k hk2
  omega
 ·rcases hk with hk|hk
  ·have:=hH k hk
   unfold From
   omega
  ·exact (hT k hk).1
 ·rcases hk with hk|hk|hk
  ·rcases hA k hk with h|h
   ·exact h.2
   ·exact h.elim
  ·exact (hH k hk).2
  ·have:=(hT k hk).2
   omega
 ·rcases hA k hk with h|h
  ·exact h.1
  ·exact h.elim
end Go.Proofs.YtjcgmhlbkheadaaGreatDoor
