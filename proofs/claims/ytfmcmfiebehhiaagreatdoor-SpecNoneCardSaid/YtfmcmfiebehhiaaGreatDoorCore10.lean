/- maps: Update. maps: Update and Delete at any maps. maps: Delete. maps: Entries. maps: Entries at any maps. maps: may these be maps? -/
import Derived.Test.YtfmcmfiebehhiaaGreatDoorCore5
import Derived.Deep.DeepCutAuto
import Derived.Deep.CutBlock
import Derived.Outline
set_option linter.all false
set_option linter.unusedVariables false
set_option linter.unusedSimpArgs false
set_option maxRecDepth 100000
set_option maxHeartbeats 1000000
namespace Go.Proofs.YtfmcmfiebehhiaaGreatDoor
open Go.Proofs.Tryz
open Go.RowKit
theorem update_bad(p i K V w)(hh:Calls prog 63 #[p, .int .i64 i, .string K] w fun e w'=>e= .returned (.bool false)∧w=w'):
  Calls prog 29 #[p, .int .i64 i, .string K, .string V] w fun e w'=>e= .returned (.int .i64 (-22))∧w=w':=by
 have HH:=Lib.hid hh
 clear hh
 go_enter func29,ntmps29
 go_wp2_with (go_at_call 63;(with_reducible refine (HH.out).mono ?_);rintro e w' ⟨rfl,rfl⟩)
 go_ret
 exact ⟨rfl,rfl⟩
theorem update_len(b i n cl gl vl size)(K V:ByteArray)(w:World)(hi:i<n)(h1:w.cell? ⟨b,1,none⟩=some (.slice (some ⟨gl,0,none⟩) n cl))(hs:w.cell? ⟨gl,i*4+2,none⟩=some (.int .i64 size))(hV:V.size=vl)(hne:((vl:Int) !=size)=true)(hh:Calls prog 63 #[.pointer (some ⟨b,0,none⟩), .int .i64 i, .string K] w fun e w'=>e= .returned (.bool true)∧w=w'):
  Calls prog 29 #[.pointer (some ⟨b,0,none⟩), .int .i64 i, .string K, .string V] w fun e w'=>e= .returned (.int .i64 (-22))∧w=w':=by
 have b1:(0:Int)≤(i:Int):=by omega
 have b2:(i:Int)<(n:Int):=by omega
 have HH:=Lib.hid hh
 clear hh
 go_enter func29,ntmps29
 go_wp2_with (go_at_call 63;(with_reducible refine (HH.out).mono ?_);rintro e w' ⟨rfl,rfl⟩)
 go_ret
 exact ⟨rfl,rfl⟩
theorem update_off(b i n cl ct gl gt vl size why T v f)(K V:ByteArray)(w:World)(hi:i<n)(h1:w.cell? ⟨b,1,none⟩=some (.slice (some ⟨gl,0,none⟩) n cl))(hs:w.cell? ⟨gl,i*4+2,none⟩=some (.int .i64 size))(hV:V.size=vl)(hne:((vl:Int) !=size)=false)(h2:w.cell? ⟨b,2,none⟩=some (.slice (some ⟨gt,0,none⟩) n ct))(hc:w.cell? ⟨gt,i,none⟩=some (.iface T v))(hh:Calls prog 63 #[.pointer (some ⟨b,0,none⟩), .int .i64 i, .string K] w fun e w'=>e= .returned (.bool true)∧w=w')(hm:Face T v "firewall/maps.lay" f)(hf:Calls prog f #[v, .string K] w fun e w'=>e= .returned (.tuple #[.int .i64 (-1), .int .i64 why])∧w=w'):
  Calls prog 29 #[.pointer (some ⟨b,0,none⟩), .int .i64 i, .string K, .string V] w fun e w'=>e= .returned (.int .i64 why)∧w=w':=by
 have b1:(0:Int)≤(i:Int):=by omega
 have b2:(i:Int)<(n:Int):=by omega
 have HH:=Lib.hid hh
 have HF:=Lib.hid hf
 obtain ⟨hm,he⟩:=hm
 clear hh hf
 go_enter func29,ntmps29
 go_wp2_with (go_at_call 63;(with_reducible refine (HH.out).mono ?_);rintro e w' ⟨rfl,rfl⟩)
 refine (HF.out).mono ?_
 rintro e w' ⟨rfl,rfl⟩
 go_wp2_with fail
 go_ret
 exact ⟨rfl,rfl⟩
theorem update_in(b mb i n cl ct gl gt vl p:Nat)(size why addr:Int)(T:TypeId)(v:Value)(f:Nat)(K V:ByteArray)(w:World)(hi:i<n)(h1:w.cell? ⟨b,1,none⟩=some (.slice (some ⟨gl,0,none⟩) n cl))(hs:w.cell? ⟨gl,i*4+2,none⟩=some (.int .i64 size))(hV:V.size=vl)
  (hne:((vl:Int) !=size)=false) (h2:w.cell? ⟨b,2,none⟩=some (.slice (some ⟨gt,0,none⟩) n ct)) (hc:w.cell? ⟨gt,i,none⟩=some (.iface T v)) (hvl:vl≤64) (ha0:0≤addr) (ha1:addr≤100000000)
  (Q:World→Prop) (U:Nat→World→Prop)
  (hh:Calls prog 63 #[.pointer (some ⟨b,0,none⟩), .int .i64 i, .string K] w fun e w'=>e= .returned (.bool true)∧w=w')
  (hm:Face T v "firewall/maps.lay" f) (hf:Calls prog f #[v, .string K] w fun e w'=>e= .returned (.tuple #[.int .i64 p, .int .i64 why])∧Hid (Q w'))
  (hU0:∀w',Q w'→U 0 w') (hmem:∀k W,U k W→W.cell? ⟨b,3,none⟩=some (.pointer (some ⟨mb,0,none⟩)))
  (hval:∀k W,U k W→∀W',Fr No W W'→Calls prog 64 #[.pointer (some ⟨b,0,none⟩), .int .i64 i, .int .i64 p] W' fun e w'=>e= .returned (.int .u64 addr)∧Fr No W' w')
  (hwr:∀k W (hk:k<V.size),U k W→∀W',Fr No W W'→Calls prog 33 #[.pointer (some ⟨mb,0,none⟩), .int .u64 (addr+k), .int .i64 1, .int .u64 (V[k].toNat:Int)] W' fun e w'=>e= .returned (.int .i64 0)∧Hid (U (k+1) w')):
  Calls prog 29 #[.pointer (some ⟨b,0,none⟩), .int .i64 i, .string K, .string V] w fun e w'=>e= .returned (.int .i64 0)∧U vl w':=by
 have b1:(0:Int)≤(i:Int):=by omega
 have b2:(i:Int)<(n:Int):=by omega
 have HH:=Lib.hid hh
 have HF:=Lib.hid hf
 have HU0:=Lib.hid hU0
 have HMEM:=Lib.hid hmem
 have HVAL:=Lib.hid hval
 have HWR:=Lib.hid hwr
 obtain ⟨hm,he⟩:=hm
 clear hh hf hU0 hmem hval hwr
 go_enter func29,ntmps29
 go_wp2_with (go_at_call 63;(with_reducible refine (HH.out).mono ?_);rintro e w' ⟨rfl,rfl⟩)
 refine (HF.out).mono ?_
 rintro e w1 ⟨rfl,HQ⟩
 have HU1:Hid (U 0 w1):=HU0.out _ HQ.out
 clear h1 hs h2 hc hm he HQ HU0 HH HF
 go_wp2_with fail
 go_loopw [47] (fun s wr=>∃k:Nat,k≤vl∧s= .int .i64 k∧Hid (U k wr)) (fun s _=>vl-(intOf s).toNat)
 case atStart=>exact ⟨0,Nat.zero_le _,rfl,HU1⟩
 case round=>
  obtain ⟨k,hk,rfl,HU⟩:=hrel
  by_cases hlt:k<vl
  ·have hkV:k<V.size:=by rw [hV];exact hlt
   have f1:IntKind.u64.wrap (k:Int)=k:=u64_nat k (by omega)
   have f2:IntKind.u64.wrap (addr+(k:Int))=addr+k:=IntWalk.u64_in _ (by omega)
   have f3:IntKind.u64.wrap (V[k].toNat:Int)=V[k].toNat:=u64_nat _ (by have:=V[k].toNat_lt;omega)
   have c3:=HMEM.out k wr HU.out
   have b3:(0:Int)≤(k:Int):=by omega
   have b4:(k:Int)<(vl:Int):=by omega
   go_upto_region 16 with fail
   have HV1:Hid (∀W',Fr No wr W'→Calls prog 64 #[.pointer (some ⟨b,0,none⟩), .int .i64 i, .int .i64 p] W' fun e w'=>e= .returned (.int .u64 addr)∧Fr No W' w'):=HVAL.out k wr HU.out
   have HW1:Hid (∀W',Fr No wr W'→Calls prog 33 #[.pointer (some ⟨mb,0,none⟩), .int .u64 (addr+k), .int .i64 1, .int .u64 (V[k].toNat:Int)] W' fun e w'=>e= .returned (.int .i64 0)∧Hid (U (k+1) w')∧w'.cell? ⟨b,3,none⟩=some (.pointer (some ⟨mb,0,none⟩))):=fun W' hW=>(HWR.out k wr hkV HU.out W' hW).mono fun e w' ⟨he,hu⟩=>⟨he,hu,HMEM.out _ w' hu.out⟩
   have HC3:=Lib.hid c3
   clear HVAL HWR HMEM HU1
   go_region_held3 (fun W=>W.cell? ⟨b,3,none⟩=some (.pointer (some ⟨mb,0,none⟩)))
    (first|go_keep|exact hf5.cell (by go_keep) id)
    (first
     |(go_at_call 64;(with_reducible refine (HV1.out _ (by exact (Fr.refl _ _).drew)).mono ?_);rintro e w5 ⟨rfl,hf5⟩)
     |(go_at_call 33;(with_reducible refine (HW1.out _ (by exact ((Fr.refl _ _).drew).trans hf5)).mono ?_);rintro e w6 ⟨rfl,HU6,hc6⟩))
   all_goals
    go_wp2_with fail
    go_roundw
    case rel=>exact ⟨k+1,by omega,by go_num,HU6⟩
    case measure=>simp [intOf]<;>omega
  ·obtain rfl:k=vl:=by omega
   go_wp2_with fail
   go_ret
   exact ⟨rfl,HU.out⟩
theorem MemAt.wf{w b m S}(h:MemAt w b m S):WF m:=by
 obtain ⟨v,l,rfl,h⟩:=h
 exact h.wf
def Or2(H T:Nat→Prop):Nat→Prop:=fun k=>H k∨T k
structure MapsOn(w:World)(b mb:Nat)(S:List Tab)(m:List Reg)(A H T:Nat→Prop)(w':World):Prop where
 fr:Fr (Or2 H T) w w'
 maps:MapsAt w' b mb S A H
 mem:MemAt w' mb m T
theorem MapsOn.no{w b mb S m A H T w' w2}(h:MapsOn w b mb S m A H T w')(hf:Fr No w' w2):MapsOn w b mb S m A H T w2:=
 ⟨h.fr.trans hf.any,h.maps.no hf,h.mem.fr hf (fun _ _=>id)⟩
def whyOf(t:Tab):Int:=if t.d.kind=1 then-2 else-7
def LayQ(t:Tab)(g:Nat)(key:List UInt8)(w:World)(e:Ending)(w':World):Prop:=
 match t.find key with
 |some p=>e= .returned (.tuple #[.int .i64 p, .int .i64 (whyOf t)])∧w=w'
 |none=>if t.d.kind=1 then e= .returned (.tuple #[.int .i64 (-1), .int .i64 (-2)])∧w=w' else LayPost t g key w e w'
theorem HTab.lay_face{w}{x:HTab}(ok:x.t.ok)(hh:x.t.d.kind=2→x.here w)(key:List UInt8)(hk:(key.length:Int)=x.t.d.key):
  ∃T v f,x.cell= .iface T v∧Face T v "firewall/maps.lay" f∧Calls prog f #[v, .string ⟨key.toArray⟩] w (LayQ x.t x.h key w):=by
 rcases ok.kinds with h1|h2
 ·refine ⟨_,_,_,by unfold HTab.cell;rw [if_pos h1],face_alay _,(alay_any ok h1 key (by have:=ok.key1 h1;omega)).mono ?_⟩
  rintro e w' ⟨he,hw⟩
  unfold LayQ
  cases hf:x.t.find key with
  |some p=>rw [hf] at he;unfold whyOf;rw [if_pos h1];exact ⟨he,hw⟩
  |none=>rw [hf] at he;simp only [if_pos h1];exact ⟨he,hw⟩
 ·refine ⟨_,_,_,by unfold HTab.cell;rw [if_neg (by omega)],face_hlay _ _ _,(hlay_any (hh h2) (by have:=ok.bounds;omega) key).mono ?_⟩
  rintro e w' he
  unfold LayQ
  have he0:=he
  unfold LayPost at he
  cases hf:x.t.find key with
  |some p=>rw [hf] at he;unfold whyOf;rw [if_neg (by omega)];exact he
  |none=>simp only [if_neg (show¬x.t.d.kind=1 by omega)];exact he0
theorem HoldsM.new{S:List Tab}{m}(h:HoldsM S m){i}{t:Tab}(hi:S[i]? =some t)(p key):HoldsM (S.set i (t.lay p key)) m:=h.set hi rfl
theorem update_lays{A H T:Nat→Prop}{w:World}{b mb:Nat}{S S':List Tab}{m:List Reg}(hm:MemAt w mb m T)(hT:∀k,T k→¬A k∧¬H k){i:Nat}{x:HTab}{l:List HTab}(hS:l.map (·.t)=S)(h:MapsL w b mb l A H)(hx:l[i]? =some x)
  (key val:List UInt8) (hkey:(key.length:Int)=x.t.d.key) (hlen:(val.length:Int)=x.t.d.value) {p:Nat} (hp:p<x.t.ks.length) {why:Int} {TT:TypeId} {v:Value} {f:Nat} (hcell:x.cell= .iface TT v) (face:Face TT v "firewall/maps.lay" f)
  (hold:HoldsM S m) {t':Tab} (hS':S'[i]? =some t') (ht':t'.d=x.t.d∧t'.ks.length=x.t.ks.length)
  (hf:Calls prog f #[v, .string ⟨key.toArray⟩] w fun e w'=>e= .returned (.tuple #[.int .i64 p, .int .i64 why])∧Hid (Fr H w w'∧MapsAt w' b mb S' A H)):
  Calls prog 29 #[.pointer (some ⟨b,0,none⟩), .int .i64 i, .string ⟨key.toArray⟩, .string ⟨val.toArray⟩] w fun e w'=>e= .returned (.int .i64 0)∧MapsOn w b mb S' (mput m (mplace i p x.t) val) A H T w':=by
 have hxm:=List.mem_of_getElem? hx
 have ok:=h.ok x hxm
 have hb:=ok.bounds
 obtain ⟨gl,cl,gt,ct,c1,c2,hi,_,_,d0,d1,d2,d3,d4⟩:=h.at hx
 have hfew:=h.few
 have hpb:=mplace_bounds (i:=i) ok hp (by omega)
 have hSi:S[i]? =some x.t:=by rw [←hS,List.getElem?_map,hx];rfl
 obtain ⟨j,r,hr,hr0,hr1,hfree,_,_⟩:=hold.place hSi ok hp
 have hwf:=hm.wf
 have hmaps:MapsAt w b mb S A H:=⟨l,hS,h⟩
 have hh:=has_any hmaps i key
 have hhas:(mhas S i key).isSome=true:=by rw [mhas_of hSi hkey];rfl
 rw [hhas] at hh
 rw [hcell] at d4
 have hv:mplace i p t'=mplace i p x.t:=by unfold mplace;rw [ht'.1]
 refine (update_in b mb i l.length cl ct gl gt val.length p x.t.d.value why (mplace i p x.t) TT v f ⟨key.toArray⟩ ⟨val.toArray⟩ w hi c1 d2 rfl (by simpa using hlen) c2 d4 (by omega) (by omega) (by omega)
  (fun w'=>Fr H w w'∧MapsAt w' b mb S' A H) (fun k w'=>MapsOn w b mb S' (mput m (mplace i p x.t) (val.take k)) A H T w') hh face hf ?_ ?_ ?_ ?_).mono ?_
 ·rintro w' ⟨hf1,hm1⟩
  refine ⟨hf1.mono (fun _ _=> .inl),hm1,?_⟩
  rw [List.take_zero,mput_nil]
  exact hm.fr hf1 (fun k hk=>(hT k hk).2)
 ·intro k W hU
  obtain ⟨l2,_,h2⟩:=hU.maps
  exact h2.mem
 ·intro k W hU W' hW'
  rw [←hv]
  exact mvalue_any (hU.maps.no hW') hS' (by rw [ht'.2];exact hp)
 ·intro k W hk hU W' hW'
  have hk':k<val.length:=hk
  have hget:val[k]? =some ((⟨val.toArray⟩:ByteArray)[k]):=by
   rw [List.getElem?_eq_getElem hk']
   rfl
  have hstep:=mput_step hwf hr hfree hget hr0 (by rw [hlen];exact hr1)
  have hlt:=((⟨val.toArray⟩:ByteArray)[k]).toNat_lt
  refine (write_any (hU.mem.fr hW' (fun _ _=>id)) (mplace i p x.t+k) 1 ((⟨val.toArray⟩:ByteArray)[k]).toNat (by omega) (by omega) (by omega)).mono ?_
  rw [hstep]
  rintro e w' ⟨he,hf1,hm1⟩
  refine ⟨he,(hU.fr.trans hW'.any).trans (hf1.mono fun _ _=> .inr),?_,hm1⟩
  exact (hU.maps.no hW').fr hf1 (fun k hA hk=>(hT k hk).1 hA) (fun k hH hk=>(hT k hk).2 hH)
 ·rintro e w' ⟨he,hU⟩
  refine ⟨he,?_⟩
  rwa [List.take_of_length_le (Nat.le_refl _)] at hU
theorem update_any{A H T w b mb}{S:List Tab}{m}(h:MapsAt w b mb S A H)(hm:MemAt w mb m T)(hT:∀k,T k→¬A k∧¬H k)(hold:HoldsM S m)(i)(key val:List UInt8):
  Calls prog 29 #[.pointer (some ⟨b,0,none⟩), .int .i64 i, .string ⟨key.toArray⟩, .string ⟨val.toArray⟩] w fun e w'=>
   e= .returned (.int .i64 (mupdate S m i key val).2)∧MapsOn w b mb (mupdate S m i key val).1.1 (mupdate S m i key val).1.2 A H T w':=by
 have hh:=has_any h i key
 have hmaps:=h
 have same:MapsOn w b mb S m A H T w:=⟨Fr.refl _ _,h,hm⟩
 obtain ⟨l,hS,h⟩:=h
 unfold mupdate
 cases hmh:mhas S i key with
 |none=>
  rw [hmh] at hh
  exact (update_bad _ i _ _ w hh).mono fun e w' ⟨he,hw⟩=>⟨he,hw ▸ same⟩
 |some t=>
  rw [hmh] at hh
  obtain ⟨k,rfl,hk,hkl⟩:=mhas_some hmh
  have hk0:=hk
  rw [←hS,List.getElem?_map] at hk
  obtain ⟨x,hx,rfl⟩:=Option.map_eq_some_iff.1 hk
  have hxm:=List.mem_of_getElem? hx
  have ok:=h.ok x hxm
  obtain ⟨gl,cl,gt,ct,c1,c2,hi,_,_,d0,d1,d2,d3,d4⟩:=h.at hx
  by_cases hlen:(val.length:Int)=x.t.d.value
  ·simp only [hlen,if_true,Int.toNat_natCast]
   obtain ⟨TT,v,f,hcell,face,hf⟩:=HTab.lay_face ok (fun h2=>(h.here x hxm h2).1) key hkl
   have d4':=d4
   rw [hcell] at d4
   unfold LayQ at hf
   have off:∀why:Int,(Calls prog f #[v, .string ⟨key.toArray⟩] w fun e w'=>e= .returned (.tuple #[.int .i64 (-1), .int .i64 why])∧w=w')→
     Calls prog 29 #[.pointer (some ⟨b,0,none⟩), .int .i64 k, .string ⟨key.toArray⟩, .string ⟨val.toArray⟩] w fun e w'=>e= .returned (.int .i64 why)∧MapsOn w b mb S m A H T w':=fun why hf=>
    (update_off b k l.length cl ct gl gt val.length x.t.d.value why TT v f ⟨key.toArray⟩ ⟨val.toArray⟩ w hi c1 d2 rfl (by simpa using hlen) c2 d4 hh face hf).mono fun e w' ⟨he,hw⟩=>⟨he,hw ▸ same⟩
   cases hfi:x.t.find key with
   |some p=>
    simp only [hfi] at hf
    have hp:=(find_some hfi).1
    exact update_lays hm hT hS h hx key val hkl hlen hp hcell face hold hk0 ⟨rfl,rfl⟩ (hf.mono fun e w' ⟨he,hw⟩=>⟨he,hw ▸ ⟨Fr.refl _ _,hmaps⟩⟩)
   |none=>
    simp only [hfi] at hf
    rcases ok.kinds with h1|h2
    ·simp only [h1,if_true] at hf ⊢
     exact off _ hf
    ·have hn1:¬x.t.d.kind=1:=by omega
     simp only [if_neg hn1] at hf ⊢
     unfold LayPost at hf
     simp only [hfi] at hf
     cases hfe:x.t.find [] with
     |none=>
      simp only [hfe] at hf
      exact off _ hf
     |some p=>
      simp only [hfe] at hf
      have hp:=(find_some hfe).1
      obtain ⟨g1,g2⟩:=h.lay hx h2 hp (key:=key) (.inr hkl)
      have hSt:(l.set k (x.lay p key)).map (·.t)=S.set k (x.t.lay p key):=by rw [List.map_set,hS];rfl
      have hSk:(S.set k (x.t.lay p key))[k]? =some (x.t.lay p key):=by
       obtain ⟨hk1,_⟩:=List.getElem?_eq_some_iff.1 hk0
       rw [List.getElem?_set];simp [hk1]
      exact update_lays hm hT hS h hx key val hkl hlen hp hcell face hold hSk ⟨rfl,by simp [Tab.lay]⟩ (hf.mono fun e w' ⟨he,hw⟩=>⟨he,by rw [hw];exact ⟨g2,_,hSt,g1⟩⟩)
  ·have hne:((val.length:Int) !=x.t.d.value)=true:=by simpa using hlen
   simp only [hlen,if_false]
   exact (update_len b k l.length cl gl val.length x.t.d.value ⟨key.toArray⟩ ⟨val.toArray⟩ w hi c1 d2 rfl hne hh).mono fun e w' ⟨he,hw⟩=>⟨he,hw ▸ same⟩
theorem delete_bad(p i K w)(hh:Calls prog 63 #[p, .int .i64 i, .string K] w fun e w'=>e= .returned (.bool false)∧w=w'):
  Calls prog 144 #[p, .int .i64 i, .string K] w fun e w'=>e= .returned (.int .i64 (-22))∧w=w':=by
 have HH:=Lib.hid hh
 clear hh
 go_enter func144,ntmps144
 go_wp2_with (go_at_call 63;(with_reducible refine (HH.out).mono ?_);rintro e w' ⟨rfl,rfl⟩)
 go_ret
 exact ⟨rfl,rfl⟩
theorem assert_arr(m w):(Instr.typeAssert (.iface 148 (.int .i64 m)) 150 152 true).run prog w= .ok (.tuple #[.slice none 0 0, .bool false]) w:=by kernel_rfl
theorem assert_hash(a n c w):(Instr.typeAssert (.iface 152 (.slice a n c)) 150 152 true).run prog w= .ok (.tuple #[.slice a n c, .bool true]) w:=by kernel_rfl
theorem delete_arr(b i n ct gt m K)(w:World)(hi:i<n)(h2:w.cell? ⟨b,2,none⟩=some (.slice (some ⟨gt,0,none⟩) n ct))(hc:w.cell? ⟨gt,i,none⟩=some (.iface 148 (.int .i64 m)))(hh:Calls prog 63 #[.pointer (some ⟨b,0,none⟩), .int .i64 i, .string K] w fun e w'=>e= .returned (.bool true)∧w=w'):
  Calls prog 144 #[.pointer (some ⟨b,0,none⟩), .int .i64 i, .string K] w fun e w'=>e= .returned (.int .i64 (-22))∧w=w':=by
 have b1:(0:Int)≤(i:Int):=by omega
 have b2:(i:Int)<(n:Int):=by omega
 have hA:=assert_arr m
 have HH:=Lib.hid hh
 clear hh
 go_enter func144,ntmps144
 go_wp2_with (go_at_call 63;(with_reducible refine (HH.out).mono ?_);rintro e w' ⟨rfl,rfl⟩)
 go_ret
 exact ⟨rfl,rfl⟩
theorem delete_off(b i n ct gt a hn hc2 K)(w:World)(hi:i<n)(h2:w.cell? ⟨b,2,none⟩=some (.slice (some ⟨gt,0,none⟩) n ct))(hc:w.cell? ⟨gt,i,none⟩=some (.iface 152 (.slice a hn hc2)))(hh:Calls prog 63 #[.pointer (some ⟨b,0,none⟩), .int .i64 i, .string K] w fun e w'=>e= .returned (.bool true)∧w=w')(hf:Calls prog 159 #[.slice a hn hc2, .string K] w fun e w'=>e= .returned (.int .i64 (-1))∧w=w'):
  Calls prog 144 #[.pointer (some ⟨b,0,none⟩), .int .i64 i, .string K] w fun e w'=>e= .returned (.int .i64 (-2))∧w=w':=by
 have b1:(0:Int)≤(i:Int):=by omega
 have b2:(i:Int)<(n:Int):=by omega
 have hA:=assert_hash a hn hc2
 have HH:=Lib.hid hh
 have HF:=Lib.hid hf
 clear hh hf
 go_enter func144,ntmps144
 go_wp2_with (first|(go_at_call 63;(with_reducible refine (HH.out).mono ?_);rintro e w' ⟨rfl,rfl⟩)|(go_at_call 159;(with_reducible refine (HF.out).mono ?_);rintro e w' ⟨rfl,rfl⟩))
 go_ret
 exact ⟨rfl,rfl⟩
theorem delete_hit(b i n ct gt h p hn hc2 old K)(w:World)(hi:i<n)(hp:p<hn)(h2:w.cell? ⟨b,2,none⟩=some (.slice (some ⟨gt,0,none⟩) n ct))(hc:w.cell? ⟨gt,i,none⟩=some (.iface 152 (.slice (some ⟨h,0,none⟩) hn hc2)))(hold:w.cell? ⟨h,p,none⟩=some old)(hfree:w.frozen? ⟨h,p,none⟩=false)(hh:Calls prog 63 #[.pointer (some ⟨b,0,none⟩), .int .i64 i, .string K] w fun e w'=>e= .returned (.bool true)∧w=w')(hf:Calls prog 159 #[.slice (some ⟨h,0,none⟩) hn hc2, .string K] w fun e w'=>e= .returned (.int .i64 p)∧w=w'):
  Calls prog 144 #[.pointer (some ⟨b,0,none⟩), .int .i64 i, .string K] w fun e w'=>e= .returned (.int .i64 0)∧w'=w.setCell ⟨h,p,none⟩ (.string ⟨#[]⟩):=by
 have b1:(0:Int)≤(i:Int):=by omega
 have b2:(i:Int)<(n:Int):=by omega
 have b3:(0:Int)≤(p:Int):=by omega
 have b4:(p:Int)<(hn:Int):=by omega
 have hA:=assert_hash (some ⟨h,0,none⟩) hn hc2
 have HH:=Lib.hid hh
 have HF:=Lib.hid hf
 clear hh hf
 go_enter func144,ntmps144
 go_wp2_with (first|(go_at_call 63;(with_reducible refine (HH.out).mono ?_);rintro e w' ⟨rfl,rfl⟩)|(go_at_call 159;(with_reducible refine (HF.out).mono ?_);rintro e w' ⟨rfl,rfl⟩))
 go_ret
 exact ⟨rfl,rfl⟩
theorem delete_any{A H w b mb}{S:List Tab}(h:MapsAt w b mb S A H)(i)(key:List UInt8):
  Calls prog 144 #[.pointer (some ⟨b,0,none⟩), .int .i64 i, .string ⟨key.toArray⟩] w fun e w'=>
   e= .returned (.int .i64 (mdelete S i key).2)∧Fr H w w'∧MapsAt w' b mb (mdelete S i key).1 A H:=by
 have hh:=has_any h i key
 have hmaps:=h
 have same:Fr H w w∧MapsAt w b mb S A H:=⟨Fr.refl _ _,h⟩
 obtain ⟨l,hS,h⟩:=h
 unfold mdelete
 cases hmh:mhas S i key with
 |none=>
  rw [hmh] at hh
  exact (delete_bad _ i _ w hh).mono fun e w' ⟨he,hw⟩=>⟨he,hw ▸ same⟩
 |some t=>
  rw [hmh] at hh
  obtain ⟨k,rfl,hk,hkl⟩:=mhas_some hmh
  have hk0:=hk
  rw [←hS,List.getElem?_map] at hk
  obtain ⟨x,hx,rfl⟩:=Option.map_eq_some_iff.1 hk
  have hxm:=List.mem_of_getElem? hx
  have ok:=h.ok x hxm
  obtain ⟨gl,cl,gt,ct,c1,c2,hi,_,_,d0,d1,d2,d3,d4⟩:=h.at hx
  rcases ok.kinds with h1|h2
  ·simp only [h1,if_true]
   unfold HTab.cell at d4
   rw [if_pos h1] at d4
   exact (delete_arr b k l.length ct gt _ _ w hi c2 d4 hh).mono fun e w' ⟨he,hw⟩=>⟨he,hw ▸ same⟩
  ·have hn1:¬x.t.d.kind=1:=by omega
   simp only [if_neg hn1,Int.toNat_natCast]
   unfold HTab.cell at d4
   rw [if_neg hn1] at d4
   obtain ⟨here,hH⟩:=h.here x hxm h2
   have hf:=hfind_any here (by have:=ok.bounds;omega) key
   cases hfi:x.t.find key with
   |none=>
    rw [hfi] at hf
    exact (delete_off b k l.length ct gt _ _ _ _ w hi c2 d4 hh hf).mono fun e w' ⟨he,hw⟩=>⟨he,hw ▸ same⟩
   |some p=>
    rw [hfi] at hf
    obtain ⟨hp,hpk⟩:=find_some hfi
    have c:=here.keys p (.string ⟨key.toArray⟩) (by rw [strs_get,hpk];rfl)
    have o:=here.opened p hp
    rw [Nat.zero_add] at c o
    obtain ⟨g1,g2⟩:=h.lay hx h2 hp (key:= []) (.inl rfl)
    have hSt:(l.set k (x.lay p [])).map (·.t)=S.set k (x.t.lay p []):=by rw [List.map_set,hS];rfl
    exact (delete_hit b k l.length ct gt x.h p _ _ _ _ w hi hp c2 d4 c o hh hf).mono fun e w' ⟨he,hw⟩=>⟨he,by rw [hw];exact ⟨g2,_,hSt,g1⟩⟩
def eflat(l:List (ByteArray×ByteArray)):List Value:=l.flatMap fun x=> [.string x.1, .string x.2]
structure EInv(w:World)(L:List (ByteArray×ByteArray))(v:Value)(wr:World):Prop where
 g:Gath w 99 2 L.length (eflat L) v wr
theorem EInv.step{w wr w':World}{L:List (ByteArray×ByteArray)}{v v'}(h:EInv w L v wr)(K V)(ho:w'.ownsRow w.heap.size 99 2 v' (L.length+1) (eflat L++ [.string K, .string V]))(hf:Fr (OwnOf v) wr w'):EInv w (L++ [(K,V)]) v' w':=by
 refine ⟨?_⟩
 have h2:=h.g.step ho hf
 rw [List.length_append]
 have e:eflat (L++ [(K,V)])=eflat L++ [.string K, .string V]:=by simp [eflat]
 rw [e]
 exact h2
def bpair(x:List UInt8×List UInt8):ByteArray×ByteArray:=(⟨x.1.toArray⟩,⟨x.2.toArray⟩)
def EntsAt(w:World)(v:Value)(l:List (List UInt8×List UInt8)):Prop:=
 (l= []∧∃a c,v= .slice a 0 c)∨∃g off cap,v= .slice (some ⟨g,off,none⟩) l.length cap∧CellsAt w g off (eflat (l.map bpair))
theorem EntsAt.fr{w w' v}{l:List (List UInt8×List UInt8)}(h:EntsAt w v l)(hf:Fr No w w'):EntsAt w' v l:=by
 rcases h with h|⟨g,off,cap,rfl,hc⟩
 ·exact .inl h
 ·exact .inr ⟨g,off,cap,rfl,hf.cells hc id⟩
theorem EntsAt.form{w v}{l:List (List UInt8×List UInt8)}(h:EntsAt w v l):∃a c,v= .slice a l.length c:=by
 rcases h with ⟨rfl,a,c,rfl⟩|⟨g,off,cap,rfl,hc⟩
 ·exact ⟨a,c,rfl⟩
 ·exact ⟨_,_,rfl⟩
theorem may1_k1v1(kind key value max w)(h1:kind=1)(h2:key=4)(g1:value<1):
  Calls prog 91 #[.agg #[.int .i64 kind, .int .i64 key, .int .i64 value, .int .i64 max]] w fun e w'=>e= .returned (.bool true)∧Fr No w w':=by
 have q1:(kind==1)=true:=by simpa using h1
 have q2:(key==4)=true:=by simpa using h2
 have r1:decide (value<1)=true:=by simpa using g1
 go_enter func91,ntmps91
 go_wp2_with fail
 go_ret
 exact ⟨rfl,(Fr.refl _ _).alloc _⟩
theorem may1_k1v2(kind key value max w)(h1:kind=1)(h2:key=4)(g1:1≤value)(g2:64<value):
  Calls prog 91 #[.agg #[.int .i64 kind, .int .i64 key, .int .i64 value, .int .i64 max]] w fun e w'=>e= .returned (.bool true)∧Fr No w w':=by
 have q1:(kind==1)=true:=by simpa using h1
 have q2:(key==4)=true:=by simpa using h2
 have r1:decide (value<1)=false:=by simp;omega
 have r2:decide (64<value)=true:=by simpa using g2
 go_enter func91,ntmps91
 go_wp2_with fail
 go_ret
 exact ⟨rfl,(Fr.refl _ _).alloc _⟩
theorem may1_k1v3(kind key value max w)(h1:kind=1)(h2:key=4)(g1:1≤value)(g2:value≤64)(g3:max<1):
  Calls prog 91 #[.agg #[.int .i64 kind, .int .i64 key, .int .i64 value, .int .i64 max]] w fun e w'=>e= .returned (.bool true)∧Fr No w w':=by
 have q1:(kind==1)=true:=by simpa using h1
 have q2:(key==4)=true:=by simpa using h2
 have r1:decide (value<1)=false:=by simp;omega
 have r2:decide (64<value)=false:=by simp;omega
 have r3:decide (max<1)=true:=by simpa using g3
 go_enter func91,ntmps91
 go_wp2_with fail
 go_ret
 exact ⟨rfl,(Fr.refl _ _).alloc _⟩
theorem may1_k1v4(kind key value max w)(h1:kind=1)(h2:key=4)(g1:1≤value)(g2:value≤64)(g3:1≤max)(g4:16<max):
  Calls prog 91 #[.agg #[.int .i64 kind, .int .i64 key, .int .i64 value, .int .i64 max]] w fun e w'=>e= .returned (.bool true)∧Fr No w w':=by
 have q1:(kind==1)=true:=by simpa using h1
 have q2:(key==4)=true:=by simpa using h2
 have r1:decide (value<1)=false:=by simp;omega
 have r2:decide (64<value)=false:=by simp;omega
 have r3:decide (max<1)=false:=by simp;omega
 have r4:decide (16<max)=true:=by simpa using g4
 go_enter func91,ntmps91
 go_wp2_with fail
 go_ret
 exact ⟨rfl,(Fr.refl _ _).alloc _⟩
theorem may1_k1v5(kind key value max w)(h1:kind=1)(h2:key=4)(g1:1≤value)(g2:value≤64)(g3:1≤max)(g4:max≤16):
  Calls prog 91 #[.agg #[.int .i64 kind, .int .i64 key, .int .i64 value, .int .i64 max]] w fun e w'=>e= .returned (.bool false)∧Fr No w w':=by
 have q1:(kind==1)=true:=by simpa using h1
 have q2:(key==4)=true:=by simpa using h2
 have r1:decide (value<1)=false:=by simp;omega
 have r2:decide (64<value)=false:=by simp;omega
 have r3:decide (max<1)=false:=by simp;omega
 have r4:decide (16<max)=false:=by simp;omega
 go_enter func91,ntmps91
 go_wp2_with fail
 go_ret
 exact ⟨rfl,(Fr.refl _ _).alloc _⟩
theorem may1_k2(kind key value max w)(h1:kind=1)(h2:¬key=4):
  Calls prog 91 #[.agg #[.int .i64 kind, .int .i64 key, .int .i64 value, .int .i64 max]] w fun e w'=>e= .returned (.bool true)∧Fr No w w':=by
 have q1:(kind==1)=true:=by simpa using h1
 have q2:(key==4)=false:=by simpa using h2
 have q3:(kind==2)=false:=by simp;omega
 go_enter func91,ntmps91
 go_wp2_with fail
 go_ret
 exact ⟨rfl,(Fr.refl _ _).alloc _⟩
theorem may1_k3(kind key value max w)(h1:¬kind=1)(h3:¬kind=2):
  Calls prog 91 #[.agg #[.int .i64 kind, .int .i64 key, .int .i64 value, .int .i64 max]] w fun e w'=>e= .returned (.bool true)∧Fr No w w':=by
 have q1:(kind==1)=false:=by simpa using h1
 have q3:(kind==2)=false:=by simpa using h3
 go_enter func91,ntmps91
 go_wp2_with fail
 go_ret
 exact ⟨rfl,(Fr.refl _ _).alloc _⟩
theorem may1_k4(kind key value max w)(h3:kind=2)(h4:key<1):
  Calls prog 91 #[.agg #[.int .i64 kind, .int .i64 key, .int .i64 value, .int .i64 max]] w fun e w'=>e= .returned (.bool true)∧Fr No w w':=by
 have q1:(kind==1)=false:=by simp;omega
 have q3:(kind==2)=true:=by simpa using h3
 have q4:decide (1≤key)=false:=by simp;omega
 go_enter func91,ntmps91
 go_wp2_with fail
 go_ret
 exact ⟨rfl,(Fr.refl _ _).alloc _⟩
theorem may1_k5(kind key value max w)(h3:kind=2)(h4:1≤key)(h5:8<key):
  Calls prog 91 #[.agg #[.int .i64 kind, .int .i64 key, .int .i64 value, .int .i64 max]] w fun e w'=>e= .returned (.bool true)∧Fr No w w':=by
 have q1:(kind==1)=false:=by simp;omega
 have q3:(kind==2)=true:=by simpa using h3
 have q4:decide (1≤key)=true:=by simpa using h4
 have q5:decide (key≤8)=false:=by simp;omega
 go_enter func91,ntmps91
 go_wp2_with fail
 go_ret
 exact ⟨rfl,(Fr.refl _ _).alloc _⟩
theorem may1_k6v1(kind key value max w)(h3:kind=2)(h4:1≤key)(h5:key≤8)(g1:value<1):
  Calls prog 91 #[.agg #[.int .i64 kind, .int .i64 key, .int .i64 value, .int .i64 max]] w fun e w'=>e= .returned (.bool true)∧Fr No w w':=by
 have q1:(kind==1)=false:=by simp;omega
 have q3:(kind==2)=true:=by simpa using h3
 have q4:decide (1≤key)=true:=by simpa using h4
 have q5:decide (key≤8)=true:=by simpa using h5
 have r1:decide (value<1)=true:=by simpa using g1
 go_enter func91,ntmps91
 go_wp2_with fail
 go_ret
 exact ⟨rfl,(Fr.refl _ _).alloc _⟩
theorem may1_k6v2(kind key value max w)(h3:kind=2)(h4:1≤key)(h5:key≤8)(g1:1≤value)(g2:64<value):
  Calls prog 91 #[.agg #[.int .i64 kind, .int .i64 key, .int .i64 value, .int .i64 max]] w fun e w'=>e= .returned (.bool true)∧Fr No w w':=by
 have q1:(kind==1)=false:=by simp;omega
 have q3:(kind==2)=true:=by simpa using h3
 have q4:decide (1≤key)=true:=by simpa using h4
 have q5:decide (key≤8)=true:=by simpa using h5
 have r1:decide (value<1)=false:=by simp;omega
 have r2:decide (64<value)=true:=by simpa using g2
 go_enter func91,ntmps91
 go_wp2_with fail
 go_ret
 exact ⟨rfl,(Fr.refl _ _).alloc _⟩
theorem may1_k6v3(kind key value max w)(h3:kind=2)(h4:1≤key)(h5:key≤8)(g1:1≤value)(g2:value≤64)(g3:max<1):
  Calls prog 91 #[.agg #[.int .i64 kind, .int .i64 key, .int .i64 value, .int .i64 max]] w fun e w'=>e= .returned (.bool true)∧Fr No w w':=by
 have q1:(kind==1)=false:=by simp;omega
 have q3:(kind==2)=true:=by simpa using h3
 have q4:decide (1≤key)=true:=by simpa using h4
 have q5:decide (key≤8)=true:=by simpa using h5
 have r1:decide (value<1)=false:=by simp;omega
 have r2:decide (64<value)=false:=by simp;omega
 have r3:decide (max<1)=true:=by simpa using g3
 go_enter func91,ntmps91
 go_wp2_with fail
 go_ret
 exact ⟨rfl,(Fr.refl _ _).alloc _⟩
theorem may1_k6v4(kind key value max w)(h3:kind=2)(h4:1≤key)(h5:key≤8)(g1:1≤value)(g2:value≤64)(g3:1≤max)(g4:16<max):
  Calls prog 91 #[.agg #[.int .i64 kind, .int .i64 key, .int .i64 value, .int .i64 max]] w fun e w'=>e= .returned (.bool true)∧Fr No w w':=by
 have q1:(kind==1)=false:=by simp;omega
 have q3:(kind==2)=true:=by simpa using h3
 have q4:decide (1≤key)=true:=by simpa using h4
 have q5:decide (key≤8)=true:=by simpa using h5
 have r1:decide (value<1)=false:=by simp;omega
 have r2:decide (64<value)=false:=by simp;omega
 have r3:decide (max<1)=false:=by simp;omega
 have r4:decide (16<max)=true:=by simpa using g4
 go_enter func91,ntmps91
 go_wp2_with fail
 go_ret
 exact ⟨rfl,(Fr.refl _ _).alloc _⟩
theorem may1_k6v5(kind key value max w)(h3:kind=2)(h4:1≤key)(h5:key≤8)(g1:1≤value)(g2:value≤64)(g3:1≤max)(g4:max≤16):
  Calls prog 91 #[.agg #[.int .i64 kind, .int .i64 key, .int .i64 value, .int .i64 max]] w fun e w'=>e= .returned (.bool false)∧Fr No w w':=by
 have q1:(kind==1)=false:=by simp;omega
 have q3:(kind==2)=true:=by simpa using h3
 have q4:decide (1≤key)=true:=by simpa using h4
 have q5:decide (key≤8)=true:=by simpa using h5
 have r1:decide (value<1)=false:=by simp;omega
 have r2:decide (64<value)=false:=by simp;omega
 have r3:decide (max<1)=false:=by simp;omega
 have r4:decide (16<max)=false:=by simp;omega
 go_enter func91,ntmps91
 go_wp2_with fail
 go_ret
 exact ⟨rfl,(Fr.refl _ _).alloc _⟩
theorem may1_any(x:MapD)(w):
  Calls prog 91 #[.agg #[.int .i64 x.kind, .int .i64 x.key, .int .i64 x.value, .int .i64 x.max]] w fun e w'=>e= .returned (.bool (!x.may))∧Fr No w w':=by
 have yes:x.may=true→(!x.may)=false:=fun h=>by rw [h];rfl
 have no:¬(x.may=true)→(!x.may)=true:=fun h=>by simpa using h
 have iff:=MapD.may_iff x
 have tail:∀(P:(Bool→Prop)),((x.kind=1∧x.key=4)∨(x.kind=2∧1≤x.key∧x.key≤8))→
   (x.value<1→P true)→(1≤x.value→64<x.value→P true)→(1≤x.value→x.value≤64→x.max<1→P true)→(1≤x.value→x.value≤64→1≤x.max→16<x.max→P true)→(1≤x.value→x.value≤64→1≤x.max→x.max≤16→P false)→P (!x.may):=by
  intro P hk a b c d e
  by_cases g1:x.value<1
  ·rw [no (by rw [iff];omega)];exact a g1
  by_cases g2:64<x.value
  ·rw [no (by rw [iff];omega)];exact b (by omega) g2
  by_cases g3:x.max<1
  ·rw [no (by rw [iff];omega)];exact c (by omega) (by omega) g3
  by_cases g4:16<x.max
  ·rw [no (by rw [iff];omega)];exact d (by omega) (by omega) (by omega) g4
  ·rw [yes (by rw [iff];omega)];exact e (by omega) (by omega) (by omega) (by omega)
 by_cases h1:x.kind=1
 ·by_cases h2:x.key=4
  ·exact tail (fun r=>Calls prog 91 #[.agg #[.int .i64 x.kind, .int .i64 x.key, .int .i64 x.value, .int .i64 x.max]] w fun e w'=>e= .returned (.bool r)∧Fr No w w') (.inl ⟨h1,h2⟩)
    (may1_k1v1 _ _ _ _ w h1 h2) (may1_k1v2 _ _ _ _ w h1 h2) (may1_k1v3 _ _ _ _ w h1 h2) (may1_k1v4 _ _ _ _ w h1 h2) (may1_k1v5 _ _ _ _ w h1 h2)
  ·rw [no (by rw [iff];omega)]
   exact may1_k2 _ _ _ _ w h1 h2
 ·by_cases h3:x.kind=2
  ·by_cases h4:x.key<1
   ·rw [no (by rw [iff];omega)]
    exact may1_k4 _ _ _ _ w h3 h4
   ·by_cases h5:8<x.key
    ·rw [no (by rw [iff];omega)]
     exact may1_k5 _ _ _ _ w h3 (by omega) h5
    ·exact tail (fun r=>Calls prog 91 #[.agg #[.int .i64 x.kind, .int .i64 x.key, .int .i64 x.value, .int .i64 x.max]] w fun e w'=>e= .returned (.bool r)∧Fr No w w') (.inr ⟨h3,by omega,by omega⟩)
      (may1_k6v1 _ _ _ _ w h3 (by omega) (by omega)) (may1_k6v2 _ _ _ _ w h3 (by omega) (by omega)) (may1_k6v3 _ _ _ _ w h3 (by omega) (by omega)) (may1_k6v4 _ _ _ _ w h3 (by omega) (by omega)) (may1_k6v5 _ _ _ _ w h3 (by omega) (by omega))
  ·rw [no (by rw [iff];omega)]
   exact may1_k3 _ _ _ _ w h1 h3
end Go.Proofs.YtfmcmfiebehhiaaGreatDoor

