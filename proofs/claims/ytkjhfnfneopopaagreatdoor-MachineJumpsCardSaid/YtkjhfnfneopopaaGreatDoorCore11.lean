/- maps: Update. maps: Update and Delete at any maps. maps: Delete. maps: Entries. maps: Entries at any maps. -/
import Derived.Test.YtkjhfnfneopopaaGreatDoorCore6
import Derived.Deep.DeepCutAuto
import Derived.Deep.CutBlock
import Derived.Outline
set_option linter.all false
set_option linter.unusedVariables false
set_option linter.unusedSimpArgs false
set_option maxRecDepth 100000
set_option maxHeartbeats 1000000
namespace Go.Proofs.YtkjhfnfneopopaaGreatDoor
open Go.RowKit
theorem update_bad(p:Value)(i:Int)(K V:ByteArray)(w:World)(hh:Calls Tryz.prog 59 #[p, .int .i64 i, .string K] w fun e w'=>e= .returned (.bool false)∧w=w'):
  Calls Tryz.prog 47 #[p, .int .i64 i, .string K, .string V] w fun e w'=>e= .returned (.int .i64 (-22))∧w=w':=by
 have HH:=Lib.hid hh
 clear hh
 go_enter Tryz.func47,Tryz.ntmps47
 go_wp2_with (go_at_call 59;(with_reducible refine (HH.out).mono ?_);rintro e w' ⟨rfl,rfl⟩)
 go_ret
 exact ⟨rfl,rfl⟩
theorem update_len(b i n cl gl vl:Nat)(size:Int)(K V:ByteArray)(w:World)(hi:i<n)(h1:w.cell? ⟨b,1,none⟩=some (.slice (some ⟨gl,0,none⟩) n cl))(hs:w.cell? ⟨gl,i*4+2,none⟩=some (.int .i64 size))(hV:V.size=vl)
  (hne:((vl:Int) !=size)=true)
  (hh:Calls Tryz.prog 59 #[.pointer (some ⟨b,0,none⟩), .int .i64 i, .string K] w fun e w'=>e= .returned (.bool true)∧w=w'):
  Calls Tryz.prog 47 #[.pointer (some ⟨b,0,none⟩), .int .i64 i, .string K, .string V] w fun e w'=>e= .returned (.int .i64 (-22))∧w=w':=by
 have b1:(0:Int)≤(i:Int):=by omega
 have b2:(i:Int)<(n:Int):=by omega
 have HH:=Lib.hid hh
 clear hh
 go_enter Tryz.func47,Tryz.ntmps47
 go_wp2_with (go_at_call 59;(with_reducible refine (HH.out).mono ?_);rintro e w' ⟨rfl,rfl⟩)
 go_ret
 exact ⟨rfl,rfl⟩
theorem update_off(b i n cl ct gl gt vl:Nat)(size why:Int)(T:TypeId)(v:Value)(f:Nat)(K V:ByteArray)(w:World)(hi:i<n)(h1:w.cell? ⟨b,1,none⟩=some (.slice (some ⟨gl,0,none⟩) n cl))(hs:w.cell? ⟨gl,i*4+2,none⟩=some (.int .i64 size))(hV:V.size=vl)
  (hne:((vl:Int) !=size)=false) (h2:w.cell? ⟨b,2,none⟩=some (.slice (some ⟨gt,0,none⟩) n ct)) (hc:w.cell? ⟨gt,i,none⟩=some (.iface T v))
  (hh:Calls Tryz.prog 59 #[.pointer (some ⟨b,0,none⟩), .int .i64 i, .string K] w fun e w'=>e= .returned (.bool true)∧w=w')
  (hm:Face T v "firewall/maps.lay" f) (hf:Calls Tryz.prog f #[v, .string K] w fun e w'=>e= .returned (.tuple #[.int .i64 (-1), .int .i64 why])∧w=w'):
  Calls Tryz.prog 47 #[.pointer (some ⟨b,0,none⟩), .int .i64 i, .string K, .string V] w fun e w'=>e= .returned (.int .i64 why)∧w=w':=by
 have b1:(0:Int)≤(i:Int):=by omega
 have b2:(i:Int)<(n:Int):=by omega
 have HH:=Lib.hid hh
 have HF:=Lib.hid hf
 obtain ⟨hm,he⟩:=hm
 clear hh hf
 go_enter Tryz.func47,Tryz.ntmps47
 go_wp2_with (go_at_call 59;(with_reducible refine (HH.out).mono ?_);rintro e w' ⟨rfl,rfl⟩)
 refine (HF.out).mono ?_
 rintro e w' ⟨rfl,rfl⟩
 go_wp2_with fail
 go_ret
 exact ⟨rfl,rfl⟩
theorem update_in(b mb i n cl ct gl gt vl p:Nat)(size why addr:Int)(T:TypeId)(v:Value)(f:Nat)(K V:ByteArray)(w:World)(hi:i<n)(h1:w.cell? ⟨b,1,none⟩=some (.slice (some ⟨gl,0,none⟩) n cl))(hs:w.cell? ⟨gl,i*4+2,none⟩=some (.int .i64 size))(hV:V.size=vl)
  (hne:((vl:Int) !=size)=false) (h2:w.cell? ⟨b,2,none⟩=some (.slice (some ⟨gt,0,none⟩) n ct)) (hc:w.cell? ⟨gt,i,none⟩=some (.iface T v)) (hvl:vl≤64) (ha0:0≤addr) (ha1:addr≤100000000)
  (Q:World→Prop) (U:Nat→World→Prop)
  (hh:Calls Tryz.prog 59 #[.pointer (some ⟨b,0,none⟩), .int .i64 i, .string K] w fun e w'=>e= .returned (.bool true)∧w=w')
  (hm:Face T v "firewall/maps.lay" f) (hf:Calls Tryz.prog f #[v, .string K] w fun e w'=>e= .returned (.tuple #[.int .i64 p, .int .i64 why])∧Hid (Q w'))
  (hU0:∀w',Q w'→U 0 w') (hmem:∀k W,U k W→W.cell? ⟨b,3,none⟩=some (.pointer (some ⟨mb,0,none⟩)))
  (hval:∀k W,U k W→∀W',Fr No W W'→Calls Tryz.prog 60 #[.pointer (some ⟨b,0,none⟩), .int .i64 i, .int .i64 p] W' fun e w'=>e= .returned (.int .u64 addr)∧Fr No W' w')
  (hwr:∀k W (hk:k<V.size),U k W→∀W',Fr No W W'→Calls Tryz.prog 39 #[.pointer (some ⟨mb,0,none⟩), .int .u64 (addr+k), .int .i64 1, .int .u64 (V[k].toNat:Int)] W' fun e w'=>e= .returned (.int .i64 0)∧Hid (U (k+1) w')):
  Calls Tryz.prog 47 #[.pointer (some ⟨b,0,none⟩), .int .i64 i, .string K, .string V] w fun e w'=>e= .returned (.int .i64 0)∧U vl w':=by
 have b1:(0:Int)≤(i:Int):=by omega
 have b2:(i:Int)<(n:Int):=by omega
 have HH:=Lib.hid hh
 have HF:=Lib.hid hf
 have HU0:=Lib.hid hU0
 have HMEM:=Lib.hid hmem
 have HVAL:=Lib.hid hval
 have HWR:=Lib.hid hwr
 obtain ⟨hm,he⟩:=hm
 clear hh hf hU0 hmem hval hwr
 go_enter Tryz.func47,Tryz.ntmps47
 go_wp2_with (go_at_call 59;(with_reducible refine (HH.out).mono ?_);rintro e w' ⟨rfl,rfl⟩)
 refine (HF.out).mono ?_
 rintro e w1 ⟨rfl,HQ⟩
 have HU1:Hid (U 0 w1):=HU0.out _ HQ.out
 clear h1 hs h2 hc hm he HQ HU0 HH HF
 go_wp2_with fail
 go_loopw [47] (fun s wr=>∃k:Nat,k≤vl∧s= .int .i64 k∧Hid (U k wr)) (fun s _=>vl-(intOf s).toNat)
 case atStart=>exact ⟨0,Nat.zero_le _,rfl,HU1⟩
 case round=>
  obtain ⟨k,hk,rfl,HU⟩:=hrel
  by_cases hlt:k<vl
  ·have hkV:k<V.size:=by rw [hV];exact hlt
   have f1:IntKind.u64.wrap (k:Int)=k:=u64_nat k (by omega)
   have f2:IntKind.u64.wrap (addr+(k:Int))=addr+k:=IntWalk.u64_in _ (by omega)
   have f3:IntKind.u64.wrap (V[k].toNat:Int)=V[k].toNat:=u64_nat _ (by have:=V[k].toNat_lt;omega)
   have c3:=HMEM.out k wr HU.out
   have b3:(0:Int)≤(k:Int):=by omega
   have b4:(k:Int)<(vl:Int):=by omega
   go_upto_region 16 with fail
   have HV1:Hid (∀W',Fr No wr W'→Calls Tryz.prog 60 #[.pointer (some ⟨b,0,none⟩), .int .i64 i, .int .i64 p] W' fun e w'=>e= .returned (.int .u64 addr)∧Fr No W' w'):=HVAL.out k wr HU.out
   have HW1:Hid (∀W',Fr No wr W'→Calls Tryz.prog 39 #[.pointer (some ⟨mb,0,none⟩), .int .u64 (addr+k), .int .i64 1, .int .u64 (V[k].toNat:Int)] W' fun e w'=>e= .returned (.int .i64 0)∧Hid (U (k+1) w')∧w'.cell? ⟨b,3,none⟩=some (.pointer (some ⟨mb,0,none⟩))):=fun W' hW=>(HWR.out k wr hkV HU.out W' hW).mono fun e w' ⟨he,hu⟩=>⟨he,hu,HMEM.out _ w' hu.out⟩
   have HC3:=Lib.hid c3
   clear HVAL HWR HMEM HU1
   go_region_held3 (fun W=>W.cell? ⟨b,3,none⟩=some (.pointer (some ⟨mb,0,none⟩)))
    (first|go_keep|exact hf5.cell (by go_keep) id)
    (first
     |(go_at_call 60;(with_reducible refine (HV1.out _ (by exact (Fr.refl _ _).drew)).mono ?_);rintro e w5 ⟨rfl,hf5⟩)
     |(go_at_call 39;(with_reducible refine (HW1.out _ (by exact ((Fr.refl _ _).drew).trans hf5)).mono ?_);rintro e w6 ⟨rfl,HU6,hc6⟩))
   all_goals
    go_wp2_with fail
    go_roundw
    case rel=>exact ⟨k+1,by omega,by go_num,HU6⟩
    case measure=>simp [intOf]<;>omega
  ·obtain rfl:k=vl:=by omega
   go_wp2_with fail
   go_ret
   exact ⟨rfl,HU.out⟩
theorem MemAt.wf{w:World}{b:Nat}{m:List Reg}{S:Nat→Prop}(h:MemAt w b m S):WF m:=by
 obtain ⟨v,l,rfl,h⟩:=h
 exact h.wf
def Or2(H T:Nat→Prop):Nat→Prop:=fun k=>H k∨T k
structure MapsOn(w:World)(b mb:Nat)(S:List Tab)(m:List Reg)(A H T:Nat→Prop)(w':World):Prop where
 fr:Fr (Or2 H T) w w'
 maps:MapsAt w' b mb S A H
 mem:MemAt w' mb m T
theorem MapsOn.no{w:World}{b mb:Nat}{S:List Tab}{m:List Reg}{A H T:Nat→Prop}{w' w2:World}(h:MapsOn w b mb S m A H T w')(hf:Fr No w' w2):MapsOn w b mb S m A H T w2:=
 ⟨h.fr.trans hf.any,h.maps.no hf,h.mem.fr hf (fun _ _=>id)⟩
def whyOf(t:Tab):Int:=if t.d.kind=1 then-2 else-7
def LayQ(t:Tab)(g:Nat)(key:List UInt8)(w:World)(e:Ending)(w':World):Prop:=
 match t.find key with
 |some p=>e= .returned (.tuple #[.int .i64 p, .int .i64 (whyOf t)])∧w=w'
 |none=>if t.d.kind=1 then e= .returned (.tuple #[.int .i64 (-1), .int .i64 (-2)])∧w=w' else LayPost t g key w e w'
theorem HTab.lay_face{w:World}{x:HTab}(ok:x.t.ok)(hh:x.t.d.kind=2→x.here w)(key:List UInt8)(hk:(key.length:Int)=x.t.d.key):
  ∃T v f,x.cell= .iface T v∧Face T v "firewall/maps.lay" f∧Calls Tryz.prog f #[v, .string ⟨key.toArray⟩] w (LayQ x.t x.h key w):=by
 rcases ok.kinds with h1|h2
 ·refine ⟨_,_,_,by unfold HTab.cell;rw [if_pos h1],face_alay _,(alay_any ok h1 key (by have:=ok.key1 h1;omega)).mono ?_⟩
  rintro e w' ⟨he,hw⟩
  unfold LayQ
  cases hf:x.t.find key with
  |some p=>rw [hf] at he;unfold whyOf;rw [if_pos h1];exact ⟨he,hw⟩
  |none=>rw [hf] at he;simp only [if_pos h1];exact ⟨he,hw⟩
 ·refine ⟨_,_,_,by unfold HTab.cell;rw [if_neg (by omega)],face_hlay _ _ _,(hlay_any (hh h2) (by have:=ok.bounds;omega) key).mono ?_⟩
  rintro e w' he
  unfold LayQ
  have he0:=he
  unfold LayPost at he
  cases hf:x.t.find key with
  |some p=>rw [hf] at he;unfold whyOf;rw [if_neg (by omega)];exact he
  |none=>simp only [if_neg (show¬x.t.d.kind=1 by omega)];exact he0
theorem HoldsM.new{S:List Tab}{m:List Reg}(h:HoldsM S m){i:Nat}{t:Tab}(hi:S[i]? =some t)(p:Nat)(key:List UInt8):HoldsM (S.set i (t.lay p key)) m:=h.set hi rfl
theorem update_lays{A H T:Nat→Prop}{w:World}{b mb:Nat}{S S':List Tab}{m:List Reg}(hm:MemAt w mb m T)(hT:∀k,T k→¬A k∧¬H k){i:Nat}{x:HTab}{l:List HTab}(hS:l.map (·.t)=S)(h:MapsL w b mb l A H)(hx:l[i]? =some x)
  (key val:List UInt8) (hkey:(key.length:Int)=x.t.d.key) (hlen:(val.length:Int)=x.t.d.value) {p:Nat} (hp:p<x.t.ks.length) {why:Int} {TT:TypeId} {v:Value} {f:Nat} (hcell:x.cell= .iface TT v) (face:Face TT v "firewall/maps.lay" f)
  (hold:HoldsM S m) {t':Tab} (hS':S'[i]? =some t') (ht':t'.d=x.t.d∧t'.ks.length=x.t.ks.length)
  (hf:Calls Tryz.prog f #[v, .string ⟨key.toArray⟩] w fun e w'=>e= .returned (.tuple #[.int .i64 p, .int .i64 why])∧Hid (Fr H w w'∧MapsAt w' b mb S' A H)):
  Calls Tryz.prog 47 #[.pointer (some ⟨b,0,none⟩), .int .i64 i, .string ⟨key.toArray⟩, .string ⟨val.toArray⟩] w fun e w'=>e= .returned (.int .i64 0)∧MapsOn w b mb S' (mput m (mplace i p x.t) val) A H T w':=by
 have hxm:=List.mem_of_getElem? hx
 have ok:=h.ok x hxm
 have hb:=ok.bounds
 obtain ⟨gl,cl,gt,ct,c1,c2,hi,_,_,d0,d1,d2,d3,d4⟩:=h.at hx
 have hfew:=h.few
 have hpb:=mplace_bounds (i:=i) ok hp (by omega)
 have hSi:S[i]? =some x.t:=by rw [←hS,List.getElem?_map,hx];rfl
 obtain ⟨j,r,hr,hr0,hr1,hfree,_,_⟩:=hold.place hSi ok hp
 have hwf:=hm.wf
 have hmaps:MapsAt w b mb S A H:=⟨l,hS,h⟩
 have hh:=has_any hmaps i key
 have hhas:(mhas S i key).isSome=true:=by rw [mhas_of hSi hkey];rfl
 rw [hhas] at hh
 rw [hcell] at d4
 have hv:mplace i p t'=mplace i p x.t:=by unfold mplace;rw [ht'.1]
 refine (update_in b mb i l.length cl ct gl gt val.length p x.t.d.value why (mplace i p x.t) TT v f ⟨key.toArray⟩ ⟨val.toArray⟩ w hi c1 d2 rfl (by simpa using hlen) c2 d4 (by omega) (by omega) (by omega)
  (fun w'=>Fr H w w'∧MapsAt w' b mb S' A H) (fun k w'=>MapsOn w b mb S' (mput m (mplace i p x.t) (val.take k)) A H T w') hh face hf ?_ ?_ ?_ ?_).mono ?_
 ·rintro w' ⟨hf1,hm1⟩
  refine ⟨hf1.mono (fun _ _=> .inl),hm1,?_⟩
  rw [List.take_zero,mput_nil]
  exact hm.fr hf1 (fun k hk=>(hT k hk).2)
 ·intro k W hU
  obtain ⟨l2,_,h2⟩:=hU.maps
  exact h2.mem
 ·intro k W hU W' hW'
  rw [←hv]
  exact mvalue_any (hU.maps.no hW') hS' (by rw [ht'.2];exact hp)
 ·intro k W hk hU W' hW'
  have hk':k<val.length:=hk
  have hget:val[k]? =some ((⟨val.toArray⟩:ByteArray)[k]):=by
   rw [List.getElem?_eq_getElem hk']
   rfl
  have hstep:=mput_step hwf hr hfree hget hr0 (by rw [hlen];exact hr1)
  have hlt:=((⟨val.toArray⟩:ByteArray)[k]).toNat_lt
  refine (write_any (hU.mem.fr hW' (fun _ _=>id)) (mplace i p x.t+k) 1 ((⟨val.toArray⟩:ByteArray)[k]).toNat (by omega) (by omega) (by omega)).mono ?_
  rw [hstep]
  rintro e w' ⟨he,hf1,hm1⟩
  refine ⟨he,(hU.fr.trans hW'.any).trans (hf1.mono fun _ _=> .inr),?_,hm1⟩
  exact (hU.maps.no hW').fr hf1 (fun k hA hk=>(hT k hk).1 hA) (fun k hH hk=>(hT k hk).2 hH)
 ·rintro e w' ⟨he,hU⟩
  refine ⟨he,?_⟩
  rwa [List.take_of_length_le (Nat.le_refl _)] at hU
theorem update_any{A H T:Nat→Prop}{w:World}{b mb:Nat}{S:List Tab}{m:List Reg}(h:MapsAt w b mb S A H)(hm:MemAt w mb m T)(hT:∀k,T k→¬A k∧¬H k)(hold:HoldsM S m)(i:Int)(key val:List UInt8):
  Calls Tryz.prog 47 #[.pointer (some ⟨b,0,none⟩), .int .i64 i, .string ⟨key.toArray⟩, .string ⟨val.toArray⟩] w fun e w'=>
   e= .returned (.int .i64 (mupdate S m i key val).2)∧MapsOn w b mb (mupdate S m i key val).1.1 (mupdate S m i key val).1.2 A H T w':=by
 have hh:=has_any h i key
 have hmaps:=h
 have same:MapsOn w b mb S m A H T w:=⟨Fr.refl _ _,h,hm⟩
 obtain ⟨l,hS,h⟩:=h
 unfold mupdate
 cases hmh:mhas S i key with
 |none=>
  rw [hmh] at hh
  exact (update_bad _ i _ _ w hh).mono fun e w' ⟨he,hw⟩=>⟨he,hw ▸ same⟩
 |some t=>
  rw [hmh] at hh
  obtain ⟨k,rfl,hk,hkl⟩:=mhas_some hmh
  have hk0:=hk
  rw [←hS,List.getElem?_map] at hk
  obtain ⟨x,hx,rfl⟩:=Option.map_eq_some_iff.1 hk
  have hxm:=List.mem_of_getElem? hx
  have ok:=h.ok x hxm
  obtain ⟨gl,cl,gt,ct,c1,c2,hi,_,_,d0,d1,d2,d3,d4⟩:=h.at hx
  by_cases hlen:(val.length:Int)=x.t.d.value
  ·simp only [hlen,if_true,Int.toNat_natCast]
   obtain ⟨TT,v,f,hcell,face,hf⟩:=HTab.lay_face ok (fun h2=>(h.here x hxm h2).1) key hkl
   have d4':=d4
   rw [hcell] at d4
   unfold LayQ at hf
   have off:∀why:Int,(Calls Tryz.prog f #[v, .string ⟨key.toArray⟩] w fun e w'=>e= .returned (.tuple #[.int .i64 (-1), .int .i64 why])∧w=w')→
     Calls Tryz.prog 47 #[.pointer (some ⟨b,0,none⟩), .int .i64 k, .string ⟨key.toArray⟩, .string ⟨val.toArray⟩] w fun e w'=>e= .returned (.int .i64 why)∧MapsOn w b mb S m A H T w':=fun why hf=>
    (update_off b k l.length cl ct gl gt val.length x.t.d.value why TT v f ⟨key.toArray⟩ ⟨val.toArray⟩ w hi c1 d2 rfl (by simpa using hlen) c2 d4 hh face hf).mono fun e w' ⟨he,hw⟩=>⟨he,hw ▸ same⟩
   cases hfi:x.t.find key with
   |some p=>
    simp only [hfi] at hf
    have hp:=(find_some hfi).1
    exact update_lays hm hT hS h hx key val hkl hlen hp hcell face hold hk0 ⟨rfl,rfl⟩ (hf.mono fun e w' ⟨he,hw⟩=>⟨he,hw ▸ ⟨Fr.refl _ _,hmaps⟩⟩)
   |none=>
    simp only [hfi] at hf
    rcases ok.kinds with h1|h2
    ·simp only [h1,if_true] at hf ⊢
     exact off _ hf
    ·have hn1:¬x.t.d.kind=1:=by omega
     simp only [if_neg hn1] at hf ⊢
     unfold LayPost at hf
     simp only [hfi] at hf
     cases hfe:x.t.find [] with
     |none=>
      simp only [hfe] at hf
      exact off _ hf
     |some p=>
      simp only [hfe] at hf
      have hp:=(find_some hfe).1
      obtain ⟨g1,g2⟩:=h.lay hx h2 hp (key:=key) (.inr hkl)
      have hSt:(l.set k (x.lay p key)).map (·.t)=S.set k (x.t.lay p key):=by rw [List.map_set,hS];rfl
      have hSk:(S.set k (x.t.lay p key))[k]? =some (x.t.lay p key):=by
       obtain ⟨hk1,_⟩:=List.getElem?_eq_some_iff.1 hk0
       rw [List.getElem?_set];simp [hk1]
      exact update_lays hm hT hS h hx key val hkl hlen hp hcell face hold hSk ⟨rfl,by simp [Tab.lay]⟩ (hf.mono fun e w' ⟨he,hw⟩=>⟨he,by rw [hw];exact ⟨g2,_,hSt,g1⟩⟩)
  ·have hne:((val.length:Int) !=x.t.d.value)=true:=by simpa using hlen
   simp only [hlen,if_false]
   exact (update_len b k l.length cl gl val.length x.t.d.value ⟨key.toArray⟩ ⟨val.toArray⟩ w hi c1 d2 rfl hne hh).mono fun e w' ⟨he,hw⟩=>⟨he,hw ▸ same⟩
theorem delete_bad(p:Value)(i:Int)(K:ByteArray)(w:World)(hh:Calls Tryz.prog 59 #[p, .int .i64 i, .string K] w fun e w'=>e= .returned (.bool false)∧w=w'):
  Calls Tryz.prog 145 #[p, .int .i64 i, .string K] w fun e w'=>e= .returned (.int .i64 (-22))∧w=w':=by
 have HH:=Lib.hid hh
 clear hh
 go_enter Tryz.func145,Tryz.ntmps145
 go_wp2_with (go_at_call 59;(with_reducible refine (HH.out).mono ?_);rintro e w' ⟨rfl,rfl⟩)
 go_ret
 exact ⟨rfl,rfl⟩
theorem assert_arr(m:Int)(w:World):(Instr.typeAssert (.iface 196 (.int .i64 m)) 136 198 true).run Tryz.prog w= .ok (.tuple #[.slice none 0 0, .bool false]) w:=by kernel_rfl
theorem assert_hash(a:Option Addr)(n c:Nat)(w:World):(Instr.typeAssert (.iface 198 (.slice a n c)) 136 198 true).run Tryz.prog w= .ok (.tuple #[.slice a n c, .bool true]) w:=by kernel_rfl
theorem delete_arr(b i n ct gt:Nat)(m:Int)(K:ByteArray)(w:World)(hi:i<n)(h2:w.cell? ⟨b,2,none⟩=some (.slice (some ⟨gt,0,none⟩) n ct))(hc:w.cell? ⟨gt,i,none⟩=some (.iface 196 (.int .i64 m)))
  (hh:Calls Tryz.prog 59 #[.pointer (some ⟨b,0,none⟩), .int .i64 i, .string K] w fun e w'=>e= .returned (.bool true)∧w=w'):
  Calls Tryz.prog 145 #[.pointer (some ⟨b,0,none⟩), .int .i64 i, .string K] w fun e w'=>e= .returned (.int .i64 (-22))∧w=w':=by
 have b1:(0:Int)≤(i:Int):=by omega
 have b2:(i:Int)<(n:Int):=by omega
 have hA:=assert_arr m
 have HH:=Lib.hid hh
 clear hh
 go_enter Tryz.func145,Tryz.ntmps145
 go_wp2_with (go_at_call 59;(with_reducible refine (HH.out).mono ?_);rintro e w' ⟨rfl,rfl⟩)
 go_ret
 exact ⟨rfl,rfl⟩
theorem delete_off(b i n ct gt:Nat)(a:Option Addr)(hn hc2:Nat)(K:ByteArray)(w:World)(hi:i<n)(h2:w.cell? ⟨b,2,none⟩=some (.slice (some ⟨gt,0,none⟩) n ct))(hc:w.cell? ⟨gt,i,none⟩=some (.iface 198 (.slice a hn hc2)))
  (hh:Calls Tryz.prog 59 #[.pointer (some ⟨b,0,none⟩), .int .i64 i, .string K] w fun e w'=>e= .returned (.bool true)∧w=w')
  (hf:Calls Tryz.prog 182 #[.slice a hn hc2, .string K] w fun e w'=>e= .returned (.int .i64 (-1))∧w=w'):
  Calls Tryz.prog 145 #[.pointer (some ⟨b,0,none⟩), .int .i64 i, .string K] w fun e w'=>e= .returned (.int .i64 (-2))∧w=w':=by
 have b1:(0:Int)≤(i:Int):=by omega
 have b2:(i:Int)<(n:Int):=by omega
 have hA:=assert_hash a hn hc2
 have HH:=Lib.hid hh
 have HF:=Lib.hid hf
 clear hh hf
 go_enter Tryz.func145,Tryz.ntmps145
 go_wp2_with (first|(go_at_call 59;(with_reducible refine (HH.out).mono ?_);rintro e w' ⟨rfl,rfl⟩)|(go_at_call 182;(with_reducible refine (HF.out).mono ?_);rintro e w' ⟨rfl,rfl⟩))
 go_ret
 exact ⟨rfl,rfl⟩
theorem delete_hit(b i n ct gt h p hn hc2:Nat)(old:Value)(K:ByteArray)(w:World)(hi:i<n)(hp:p<hn)(h2:w.cell? ⟨b,2,none⟩=some (.slice (some ⟨gt,0,none⟩) n ct))(hc:w.cell? ⟨gt,i,none⟩=some (.iface 198 (.slice (some ⟨h,0,none⟩) hn hc2)))
  (hold:w.cell? ⟨h,p,none⟩=some old) (hfree:w.frozen? ⟨h,p,none⟩=false)
  (hh:Calls Tryz.prog 59 #[.pointer (some ⟨b,0,none⟩), .int .i64 i, .string K] w fun e w'=>e= .returned (.bool true)∧w=w')
  (hf:Calls Tryz.prog 182 #[.slice (some ⟨h,0,none⟩) hn hc2, .string K] w fun e w'=>e= .returned (.int .i64 p)∧w=w'):
  Calls Tryz.prog 145 #[.pointer (some ⟨b,0,none⟩), .int .i64 i, .string K] w fun e w'=>e= .returned (.int .i64 0)∧w'=w.setCell ⟨h,p,none⟩ (.string ⟨#[]⟩):=by
 have b1:(0:Int)≤(i:Int):=by omega
 have b2:(i:Int)<(n:Int):=by omega
 have b3:(0:Int)≤(p:Int):=by omega
 have b4:(p:Int)<(hn:Int):=by omega
 have hA:=assert_hash (some ⟨h,0,none⟩) hn hc2
 have HH:=Lib.hid hh
 have HF:=Lib.hid hf
 clear hh hf
 go_enter Tryz.func145,Tryz.ntmps145
 go_wp2_with (first|(go_at_call 59;(with_reducible refine (HH.out).mono ?_);rintro e w' ⟨rfl,rfl⟩)|(go_at_call 182;(with_reducible refine (HF.out).mono ?_);rintro e w' ⟨rfl,rfl⟩))
 go_ret
 exact ⟨rfl,rfl⟩
theorem delete_any{A H:Nat→Prop}{w:World}{b mb:Nat}{S:List Tab}(h:MapsAt w b mb S A H)(i:Int)(key:List UInt8):
  Calls Tryz.prog 145 #[.pointer (some ⟨b,0,none⟩), .int .i64 i, .string ⟨key.toArray⟩] w fun e w'=>
   e= .returned (.int .i64 (mdelete S i key).2)∧Fr H w w'∧MapsAt w' b mb (mdelete S i key).1 A H:=by
 have hh:=has_any h i key
 have hmaps:=h
 have same:Fr H w w∧MapsAt w b mb S A H:=⟨Fr.refl _ _,h⟩
 obtain ⟨l,hS,h⟩:=h
 unfold mdelete
 cases hmh:mhas S i key with
 |none=>
  rw [hmh] at hh
  exact (delete_bad _ i _ w hh).mono fun e w' ⟨he,hw⟩=>⟨he,hw ▸ same⟩
 |some t=>
  rw [hmh] at hh
  obtain ⟨k,rfl,hk,hkl⟩:=mhas_some hmh
  have hk0:=hk
  rw [←hS,List.getElem?_map] at hk
  obtain ⟨x,hx,rfl⟩:=Option.map_eq_some_iff.1 hk
  have hxm:=List.mem_of_getElem? hx
  have ok:=h.ok x hxm
  obtain ⟨gl,cl,gt,ct,c1,c2,hi,_,_,d0,d1,d2,d3,d4⟩:=h.at hx
  rcases ok.kinds with h1|h2
  ·simp only [h1,if_true]
   unfold HTab.cell at d4
   rw [if_pos h1] at d4
   exact (delete_arr b k l.length ct gt _ _ w hi c2 d4 hh).mono fun e w' ⟨he,hw⟩=>⟨he,hw ▸ same⟩
  ·have hn1:¬x.t.d.kind=1:=by omega
   simp only [if_neg hn1,Int.toNat_natCast]
   unfold HTab.cell at d4
   rw [if_neg hn1] at d4
   obtain ⟨here,hH⟩:=h.here x hxm h2
   have hf:=hfind_any here (by have:=ok.bounds;omega) key
   cases hfi:x.t.find key with
   |none=>
    rw [hfi] at hf
    exact (delete_off b k l.length ct gt _ _ _ _ w hi c2 d4 hh hf).mono fun e w' ⟨he,hw⟩=>⟨he,hw ▸ same⟩
   |some p=>
    rw [hfi] at hf
    obtain ⟨hp,hpk⟩:=find_some hfi
    have c:=here.keys p (.string ⟨key.toArray⟩) (by rw [strs_get,hpk];rfl)
    have o:=here.opened p hp
    rw [Nat.zero_add] at c o
    obtain ⟨g1,g2⟩:=h.lay hx h2 hp (key:= []) (.inl rfl)
    have hSt:(l.set k (x.lay p [])).map (·.t)=S.set k (x.t.lay p []):=by rw [List.map_set,hS];rfl
    exact (delete_hit b k l.length ct gt x.h p _ _ _ _ w hi hp c2 d4 c o hh hf).mono fun e w' ⟨he,hw⟩=>⟨he,by rw [hw];exact ⟨g2,_,hSt,g1⟩⟩
theorem Tryz.info_entry:(Tryz.prog.info? 119).map (fun i=>(i.zero,i.size,i.bytes))=some (some (.agg #[.string ⟨#[]⟩, .string ⟨#[]⟩]),2,32):=by kernel_rfl
def eflat(l:List (ByteArray×ByteArray)):List Value:=l.flatMap fun x=> [.string x.1, .string x.2]
def toldTo(ok:Nat→Bool)(K V:Nat→ByteArray)(k:Nat):List (ByteArray×ByteArray):=(List.range k).filterMap fun p=>if ok p then some (K p,V p) else none
theorem toldTo_succ(ok:Nat→Bool)(K V:Nat→ByteArray)(k:Nat):toldTo ok K V (k+1)=toldTo ok K V k++(if ok k then [(K k,V k)] else []):=by
 unfold toldTo
 rw [List.range_succ,List.filterMap_append]
 congr 1
 cases h:ok k<;>simp [h]
theorem toldTo_le(ok:Nat→Bool)(K V:Nat→ByteArray)(k:Nat):(toldTo ok K V k).length≤k:=by
 have:=List.length_filterMap_le (fun p=>if ok p then some (K p,V p) else none) (List.range k)
 simpa [toldTo] using this
structure EInv(w:World)(L:List (ByteArray×ByteArray))(v:Value)(wr:World):Prop where
 g:Gath w 119 2 L.length (eflat L) v wr
theorem EInv.step{w wr w':World}{L:List (ByteArray×ByteArray)}{v v':Value}(h:EInv w L v wr)(K V:ByteArray)(ho:w'.ownsRow w.heap.size 119 2 v' (L.length+1) (eflat L++ [.string K, .string V]))(hf:Fr (OwnOf v) wr w'):EInv w (L++ [(K,V)]) v' w':=by
 refine ⟨?_⟩
 have h2:=h.g.step ho hf
 rw [List.length_append]
 have e:eflat (L++ [(K,V)])=eflat L++ [.string K, .string V]:=by simp [eflat]
 rw [e]
 exact h2
theorem entries_lo(b:Nat)(i:Int)(w:World)(hi:i<0):
  Calls Tryz.prog 80 #[.pointer (some ⟨b,0,none⟩), .int .i64 i] w fun e w'=>e= .returned (.slice none 0 0)∧w=w':=by
 have q:decide (i<0)=true:=by simpa using hi
 go_enter Tryz.func80,Tryz.ntmps80
 go_wp2_with fail
 go_ret
 exact ⟨rfl,rfl⟩
theorem entries_hi(p:Value)(i n:Nat)(w:World)(hi:n≤i)(hl:Calls Tryz.prog 77 #[p] w fun e w'=>e= .returned (.int .i64 n)∧w=w'):
  Calls Tryz.prog 80 #[p, .int .i64 i] w fun e w'=>e= .returned (.slice none 0 0)∧w=w':=by
 have HL:=Lib.hid hl
 clear hl
 go_enter Tryz.func80,Tryz.ntmps80
 go_wp2_with (go_at_call 77;(with_reducible refine (HL.out).mono ?_);rintro e w' ⟨rfl,rfl⟩)
 go_ret
 exact ⟨rfl,rfl⟩
theorem entries_walk(b mb i n cl ct gl gt mx:Nat)(size:Int)(T:TypeId)(v:Value)(f:Nat)(ok:Nat→Bool)(K V:Nat→ByteArray)(addr err:Nat→Int)(w:World)(hi:i<n)(hn:n≤4)(hmx:mx≤16)
  (h1:w.cell? ⟨b,1,none⟩=some (.slice (some ⟨gl,0,none⟩) n cl)) (h2:w.cell? ⟨b,2,none⟩=some (.slice (some ⟨gt,0,none⟩) n ct)) (h3:w.cell? ⟨b,3,none⟩=some (.pointer (some ⟨mb,0,none⟩)))
  (hs:w.cell? ⟨gl,i*4+2,none⟩=some (.int .i64 size)) (hx:w.cell? ⟨gl,i*4+3,none⟩=some (.int .i64 mx)) (hc:w.cell? ⟨gt,i,none⟩=some (.iface T v)) (hm:Face T v "firewall/maps.key" f)
  (hk:∀p,p<mx→∀W,Fr No w W→Calls Tryz.prog f #[v, .int .i64 p] W fun e w'=>e= .returned (.tuple #[.string (K p), .bool (ok p)])∧Fr No W w')
  (hv:∀p,p<mx→∀W,Fr No w W→Calls Tryz.prog 60 #[.pointer (some ⟨b,0,none⟩), .int .i64 i, .int .i64 p] W fun e w'=>e= .returned (.int .u64 (addr p))∧Fr No W w')
  (ht:∀p,p<mx→∀W,Fr No w W→Calls Tryz.prog 20 #[.pointer (some ⟨mb,0,none⟩), .int .u64 (addr p), .int .i64 size] W fun e w'=>e= .returned (.tuple #[.string (V p), .int .i64 (err p)])∧Fr No W w'):
  Calls Tryz.prog 80 #[.pointer (some ⟨b,0,none⟩), .int .i64 i] w fun e w'=>∃u,e= .returned u∧Hid (EInv w (toldTo ok K V mx) u w'):=by
 have b1:(0:Int)≤(i:Int):=by omega
 have b2:(i:Int)<(n:Int):=by omega
 have HL:=Lib.hid (mlen_any b n cl _ w h1)
 have q1:decide ((i:Int)<0)=false:=by simp
 have q2:decide (n≤i)=false:=by simp;omega
 have HCS:Hid (∀W,Fr No w W→W.cell? ⟨b,1,none⟩=some (.slice (some ⟨gl,0,none⟩) n cl)∧W.cell? ⟨b,2,none⟩=some (.slice (some ⟨gt,0,none⟩) n ct)∧W.cell? ⟨b,3,none⟩=some (.pointer (some ⟨mb,0,none⟩))∧W.cell? ⟨gl,i*4+2,none⟩=some (.int .i64 size)∧W.cell? ⟨gt,i,none⟩=some (.iface T v)):=
  fun W hW=>⟨hW.cell h1 id,hW.cell h2 id,hW.cell h3 id,hW.cell hs id,hW.cell hc id⟩
 have HK:=Lib.hid hk
 have HV:=Lib.hid hv
 have HT:=Lib.hid ht
 obtain ⟨hm,he⟩:=hm
 obtain ⟨i0,hi0,hz0,hz1,hz2⟩:=info_parts Tryz.info_entry
 clear hk hv ht h2 h3 hs hc
 go_enter Tryz.func80,Tryz.ntmps80
 go_wp2_with (go_at_call 77;(with_reducible refine (HL.out).mono ?_);rintro e w' ⟨rfl,rfl⟩)
 go_loopw [5,27] (fun o s wr=>∃k:Nat,k≤mx∧s= .int .i64 k∧Hid (EInv w (toldTo ok K V k) o wr)) (fun _ s _=>mx-(intOf s).toNat)
 case atStart=>exact ⟨0,Nat.zero_le _,rfl,⟨Gath.start _ _ _⟩⟩
 case round=>
  obtain ⟨k,hk,rfl,HI⟩:=hrel
  by_cases hlt:k<mx
  ·have HF:=Lib.hid HI.out.g.fr
   obtain ⟨d1,d2,d3,d4,d5⟩:=HCS.out wr HF.out
   have HK1:Hid (Calls Tryz.prog f #[v, .int .i64 k] wr fun e w'=>e= .returned (.tuple #[.string (K k), .bool (ok k)])∧Fr No wr w'):=HK.out k hlt wr HF.out
   obtain ⟨t,htk⟩:∃t,ok k=t:=⟨_,rfl⟩
   have hts:=toldTo_succ ok K V k
   have hle:=toldTo_le ok K V k
   rw [htk] at HK1 hts
   have HTS:=Lib.hid hts
   have HV1:Hid (∀W,Fr No w W→Calls Tryz.prog 60 #[.pointer (some ⟨b,0,none⟩), .int .i64 i, .int .i64 k] W fun e w'=>e= .returned (.int .u64 (addr k))∧Fr No W w'):=HV.out k hlt
   have HT1:Hid (∀W,Fr No w W→Calls Tryz.prog 20 #[.pointer (some ⟨mb,0,none⟩), .int .u64 (addr k), .int .i64 size] W fun e w'=>e= .returned (.tuple #[.string (V k), .int .i64 (err k)])∧Fr No W w'):=HT.out k hlt
   generalize K k=KK at HK1 HTS
   generalize V k=VV at HT1 HTS
   generalize addr k=aa at HV1 HT1
   generalize err k=ee at HT1
   generalize toldTo ok K V k=L at HI HTS hle
   clear hts htk HK HV HT
   cases t with
   |false=>
    have hts2:toldTo ok K V (k+1)=L:=by rw [HTS.out];simp
    have HTS2:=Lib.hid hts2
    clear hts2
    go_wp2_with fail
    refine (HK1.out).mono ?_
    rintro e w5 ⟨rfl,hf5⟩
    go_wp2_with fail
    go_roundw
    case rel=>exact ⟨k+1,by omega,by go_num,by rw [HTS2.out];exact ⟨HI.out.g.to hf5⟩⟩
    case measure=>simp [intOf]<;>omega
   |true=>
    have hts2:toldTo ok K V (k+1)=L++ [(KK,VV)]:=by rw [HTS.out];simp
    have HTS2:=Lib.hid hts2
    clear hts2
    go_wp2_with fail
    refine (HK1.out).mono ?_
    rintro e w5 ⟨rfl,hf5⟩
    have HF5:=Lib.hid (HF.out.trans hf5)
    have HI5:Hid (EInv w L u5 w5):=⟨HI.out.g.to hf5⟩
    obtain ⟨q1,q2,q3,q4,q5⟩:=HCS.out w5 HF5.out
    clear d1 d2 d3 d4 d5 hf5
    go_upto_region 22 with fail
    go_region_held3 (fun W=>W.cell? ⟨b,1,none⟩=some (.slice (some ⟨gl,0,none⟩) n cl)∧W.cell? ⟨b,3,none⟩=some (.pointer (some ⟨mb,0,none⟩))∧W.cell? ⟨gl,i*4+2,none⟩=some (.int .i64 size))
     (first|go_keep|exact ⟨hf6.cell (by go_keep) id,hf6.cell (by go_keep) id,hf6.cell (by go_keep) id⟩|exact ⟨hf7.cell (hf6.cell (by go_keep) id) id,hf7.cell (hf6.cell (by go_keep) id) id,hf7.cell (hf6.cell (by go_keep) id) id⟩)
     (first
      |(go_at_call 60;(with_reducible refine (HV1.out _ (by exact HF5.out.trans ((Fr.refl _ _).drew))).mono ?_);rintro e w6 ⟨rfl,hf6⟩)
      |(go_at_call 20;(with_reducible refine (HT1.out _ (by exact HF5.out.trans (((Fr.refl _ _).drew).trans hf6))).mono ?_);rintro e w7 ⟨rfl,hf7⟩))
    have HF57:Hid (Fr No w5 w7):=(((Fr.refl _ _).drew).trans hf6).trans hf7
    have HI7:Hid (EInv w L u5 w7):=⟨HI5.out.g.to HF57.out⟩
    have HST:Hid (∀o v' w',w'.ownsRow w.heap.size 119 2 v' (L.length+1) (eflat L++ [.string KK, .string VV])→Fr (OwnOf u5) (w7.alloc o) w'→EInv w (L++ [(KK,VV)]) v' w'):=fun o v' w' h1 h2=>(EInv.step ⟨HI7.out.g.to ((Fr.refl _ _).alloc o)⟩ KK VV h1 h2)
    have HOW:Hid (∀o,(w7.alloc o).ownsRow w.heap.size 119 2 u5 L.length (eflat L)):=fun o=>HI7.out.g.own.alloc o
    have HSZ:Hid (w.heap.size≤w7.heap.size):=HI7.out.g.fr.size
    clear HI HI5 HI7 HF HF5 HF57 hf6 hf7 q1 q2 q3 q4 q5 HK1 HV1 HT1 HCS
    generalize hll:L.length=ll at*
    generalize eflat L=ef at*
    have HLL:=Lib.hid hll
    clear hll
    go_wp2_with (at_builtin;refine wpList_append_src rfl _ _ 117 rfl w.heap.size 119 i0 _ 2 32 Tryz.underlying117 hi0 hz0 hz1 hz2 rfl (by decide) u5 ll ef rfl (HOW.out _) _ 1 [.string KK, .string VV] rfl (src_new w7 [.string KK, .string VV] 119) rfl (by simp [Value.oneCell']) (by unfold maxLen;omega) (by omega) (by simp;have:=HSZ.out;omega) ?_;intro v' w8 own8 fr8)
    have HE8:Hid (EInv w (L++ [(KK,VV)]) v' w8):=HST.out _ _ _ own8 fr8
    clear own8 fr8
    go_roundw
    case rel=>exact ⟨k+1,by omega,by go_num,by rw [HTS2.out];exact HE8⟩
    case measure=>simp [intOf]<;>omega
  ·obtain rfl:k=mx:=by omega
   go_wp2_with fail
   go_ret
   exact ⟨_,rfl,HI⟩
def bpair(x:List UInt8×List UInt8):ByteArray×ByteArray:=(⟨x.1.toArray⟩,⟨x.2.toArray⟩)
def EntsAt(w:World)(v:Value)(l:List (List UInt8×List UInt8)):Prop:=
 (l= []∧∃a c,v= .slice a 0 c)∨∃g off cap,v= .slice (some ⟨g,off,none⟩) l.length cap∧CellsAt w g off (eflat (l.map bpair))
theorem EntsAt.fr{w w':World}{v:Value}{l:List (List UInt8×List UInt8)}(h:EntsAt w v l)(hf:Fr No w w'):EntsAt w' v l:=by
 rcases h with h|⟨g,off,cap,rfl,hc⟩
 ·exact .inl h
 ·exact .inr ⟨g,off,cap,rfl,hf.cells hc id⟩
theorem EntsAt.form{w:World}{v:Value}{l:List (List UInt8×List UInt8)}(h:EntsAt w v l):∃a c,v= .slice a l.length c:=by
 rcases h with ⟨rfl,a,c,rfl⟩|⟨g,off,cap,rfl,hc⟩
 ·exact ⟨a,c,rfl⟩
 ·exact ⟨_,_,rfl⟩
theorem EInv.ents{w w':World}{l:List (List UInt8×List UInt8)}{v:Value}(h:EInv w (l.map bpair) v w'):EntsAt w' v l∧Fr No w w':=by
 refine ⟨?_,h.g.fr⟩
 rcases h.g.cells with ⟨h0,_,a,c,rfl⟩|⟨g,cap,rfl,hc,_⟩
 ·rw [List.length_map] at h0
  exact .inl ⟨List.eq_nil_of_length_eq_zero h0,a,c,rfl⟩
 ·exact .inr ⟨g,0,cap,by simp,hc⟩
theorem filterMap_like{α β:Type}(f g:α→Option β):∀(l:List α),(∀x∈l,f x=g x)→l.filterMap f=l.filterMap g
 | [],_=>rfl
 |x::l,h=>by
  rw [List.filterMap_cons,List.filterMap_cons,h x (by simp),filterMap_like f g l (fun y hy=>h y (by simp [hy]))]
theorem told_entries(m:List Reg)(i:Nat)(t:Tab)(n:Nat)(hn:n≤t.ks.length):
  toldTo (fun p=>decide (t.ks.getD p []≠ [])) (fun p=>⟨(t.ks.getD p []).toArray⟩) (fun p=>⟨(mtext m (mplace i p t) t.d.value).1.toArray⟩) n=(mentriesTo m i t n).map bpair:=by
 unfold toldTo mentriesTo
 rw [List.map_filterMap]
 refine filterMap_like _ _ _ fun p hp=> ?_
 have hp':p<t.ks.length:=by have:=List.mem_range.1 hp;omega
 have hg:t.ks[p]? =some t.ks[p]:=List.getElem?_eq_getElem hp'
 simp only [List.getD_eq_getElem?_getD,hg,Option.getD_some]
 by_cases hk:t.ks[p]= []<;>simp [hk,bpair]
theorem HTab.key_face{w:World}{x:HTab}(ok:x.t.ok)(hh:x.t.d.kind=2→∀W,Fr No w W→x.here W):
  ∃T v f,x.cell= .iface T v∧Face T v "firewall/maps.key" f∧∀p,p<x.t.ks.length→∀W,Fr No w W→Calls Tryz.prog f #[v, .int .i64 p] W fun e w'=>e= .returned (.tuple #[.string ⟨(x.t.ks.getD p []).toArray⟩, .bool (decide (x.t.ks.getD p []≠ []))])∧Fr No W w':=by
 have hb:=ok.bounds
 rcases ok.kinds with h1|h2
 ·refine ⟨_,_,_,by unfold HTab.cell;rw [if_pos h1],face_akey _,fun p hp W _=>(akey_any _ p W (by omega)).mono ?_⟩
  rintro e w' ⟨rfl,hf⟩
  refine ⟨?_,hf⟩
  have hk:x.t.ks.getD p []=leBytes 4 p:=by
   rw [ok.arr h1]
   simp [List.getD_eq_getElem?_getD,arrKeys,hp]
  have hne:leBytes 4 p≠ []:=fun e=>by have:=leBytes_length 4 p;rw [e] at this;cases this
  rw [hk]
  simp [hne]
 ·refine ⟨_,_,_,by unfold HTab.cell;rw [if_neg (by omega)],face_hkey _ _ _,fun p hp W hW=> ?_⟩
  have hg:x.t.ks[p]? =some (x.t.ks.getD p []):=by
   rw [List.getElem?_eq_getElem hp]
   simp [List.getD_eq_getElem?_getD,hp]
  exact hkey_any (hh h2 W hW) (by omega) p _ hg
theorem entries_any{A H T:Nat→Prop}{w:World}{b mb:Nat}{S:List Tab}{m:List Reg}(h:MapsAt w b mb S A H)(hm:MemAt w mb m T)(i:Int):
  Calls Tryz.prog 80 #[.pointer (some ⟨b,0,none⟩), .int .i64 i] w fun e w'=>∃u,e= .returned u∧EntsAt w' u (mentries S m i)∧Fr No w w':=by
 have hmaps:=h
 obtain ⟨l,hS,h⟩:=h
 have hfew:=h.few
 unfold mentries
 by_cases h0:i<0
 ·rw [if_neg (by omega)]
  exact (entries_lo b i w h0).mono fun e w' ⟨he,hw⟩=>⟨_,he, .inl ⟨rfl,_,_,rfl⟩,hw ▸ Fr.refl _ _⟩
 ·obtain ⟨k,rfl⟩:=Int.eq_ofNat_of_zero_le (show 0≤i by omega)
  rw [if_pos (by omega),Int.toNat_natCast]
  by_cases h1:k<l.length
  ·have hx:l[k]? =some l[k]:=List.getElem?_eq_getElem h1
   generalize l[k]=x at hx
   have hxm:=List.mem_of_getElem? hx
   have ok:=h.ok x hxm
   have hb:=ok.bounds
   have hlen:=ok.len
   obtain ⟨gl,cl,gt,ct,c1,c2,hi,_,_,d0,d1,d2,d3,d4⟩:=h.at hx
   have hSk:S[k]? =some x.t:=by rw [←hS,List.getElem?_map,hx];rfl
   rw [hSk]
   obtain ⟨TT,v,f,hcell,face,hf⟩:=HTab.key_face (w:=w) ok (fun h2 W hW=>(h.here x hxm h2).1.fr hW id (by omega))
   rw [hcell] at d4
   rw [←hlen] at d3
   refine (entries_walk b mb k l.length cl ct gl gt x.t.ks.length x.t.d.value TT v f (fun p=>decide (x.t.ks.getD p []≠ [])) (fun p=>⟨(x.t.ks.getD p []).toArray⟩) (fun p=>⟨(mtext m (mplace k p x.t) x.t.d.value).1.toArray⟩) (fun p=>mplace k p x.t) (fun p=>(mtext m (mplace k p x.t) x.t.d.value).2) w hi hfew (by omega)
    c1 c2 h.mem d2 d3 d4 face hf (fun p hp W hW=>mvalue_any (hmaps.no hW) hSk hp) (fun p hp W hW=> ?_)).mono ?_
   ·have hpb:=mplace_bounds (i:=k) ok hp (by omega)
    exact text_any (hm.fr hW (fun _ _=>id)) _ _ (by omega) (by omega) (by omega)
   ·rintro e w' ⟨u,rfl,hE⟩
    have hE':=hE.out
    rw [told_entries m k x.t x.t.ks.length (Nat.le_refl _)] at hE'
    obtain ⟨a,c⟩:=hE'.ents
    exact ⟨u,rfl,a,c⟩
  ·have hSk:S[k]? =none:=by rw [←hS,List.getElem?_map,List.getElem?_eq_none (by omega)];rfl
   rw [hSk]
   obtain ⟨a,c,c1⟩:=h.len
   exact (entries_hi _ k l.length w (by omega) (mlen_any b _ _ _ w c1)).mono fun e w' ⟨he,hw⟩=>⟨_,he, .inl ⟨rfl,_,_,rfl⟩,hw ▸ Fr.refl _ _⟩
end Go.Proofs.YtkjhfnfneopopaaGreatDoor
