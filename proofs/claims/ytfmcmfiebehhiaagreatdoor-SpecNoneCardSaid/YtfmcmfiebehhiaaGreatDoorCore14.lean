/- helpers.present; slices.Concat of regions. maps.New over a memory of the maps' own regions; updates and deletes. slices.Clone of maps and of draws, at any such slice. helpers.New. A world's none, .. -/
import Derived.Test.YtfmcmfiebehhiaaGreatDoorCore13
import Derived.Test.YtfmcmfiebehhiaaGreatDoorCore8
import Derived.Deep.RegionHeld3
import Derived.Deep.DeepCutAuto
import Derived.Deep.RegionWith
set_option linter.all false
set_option linter.unusedVariables false
set_option linter.unusedSimpArgs false
set_option maxRecDepth 100000
set_option maxHeartbeats 2000000
namespace Go.Proofs.YtfmcmfiebehhiaaGreatDoor
open Go.Proofs.Tryz
open Go.RowKit
theorem ownsRow_less{w:World}{base g e}{xs:List Value}(h:w.ownsRow base e 3 (.slice (some ⟨g,0,none⟩) 4 4) 4 xs):w.ownsRow base e 3 (.slice (some ⟨g,0,none⟩) 3 4) 3 (xs.take 9):=by
 have h1:=h.1
 refine ⟨by rw [List.length_take,h1];rfl,?_⟩
 rcases h.2 with ⟨e1,_⟩|⟨g',cap,cur,hv,hb,hg,hnc,hcm,hsz,hx⟩
 ·cases e1
 ·injection hv with e1 e2 e3
  cases e1
  subst e3
  refine .inr ⟨g,4,cur,rfl,hb,hg,by omega,hcm,hsz,?_⟩
  rw [←hx,List.take_take]
  rfl
def presL(r0 r1 r2 r3:Reg):List Reg:=if r3.data= [] then [r0,r1,r2] else [r0,r1,r2,r3]
def PresOut(r0 r1 r2 r3:Reg)(g base:Nat)(w:World)(v':Value)(w':World):Prop:=
 w'.ownsRow base 58 3 v' (presL r0 r1 r2 r3).length (aflat (presL r0 r1 r2 r3))∧Fr (fun k=>k=g) w w'
theorem find_pres(r0 r1 r2 r3:Reg)(h0:r0.data≠ [])(h1:r1.data≠ [])(h2:r2.data≠ [])(h3:r3.data= []): [r0,r1,r2,r3].findIdx? (fun r=>decide (r.data= []))=some 3:=by
 simp [List.findIdx?_cons,h0,h1,h2,h3]
theorem find_pres'(r0 r1 r2 r3:Reg)(h0:r0.data≠ [])(h1:r1.data≠ [])(h2:r2.data≠ [])(h3:r3.data≠ []): [r0,r1,r2,r3].findIdx? (fun r=>decide (r.data= []))=none:=by
 simp [List.findIdx?_cons,h0,h1,h2,h3]
theorem presL_pos(r0 r1 r2 r3:Reg)(h3:r3.data= []):presL r0 r1 r2 r3= [r0,r1,r2]:=if_pos h3
theorem presL_neg(r0 r1 r2 r3:Reg)(h3:r3.data≠ []):presL r0 r1 r2 r3= [r0,r1,r2,r3]:=if_neg h3
theorem present_del(r0 r1 r2 r3:Reg)(g base)(w:World)(own:w.ownsRow base 58 3 (.slice (some ⟨g,0,none⟩) 4 4) 4 (aflat [r0,r1,r2,r3]))(h0:r0.data≠ [])(h1:r1.data≠ [])(h2:r2.data≠ []):
  Calls prog 53 #[.slice (some ⟨g,0,none⟩) 4 4, .func (.func 54) #[] #[]] w fun e w'=>∃v',e= .returned v'∧PresOut r0 r1 r2 r3 g base w v' w':=by
 obtain ⟨g',cap,hv,_,hc⟩:=cells_of_owns own (by omega)
 injection hv with e1 e2 e3
 cases e1
 have hi:=idx_present [r0,r1,r2,r3] g 4 w (by simp) hc
 by_cases h3:r3.data= []
 ·rw [find_pres r0 r1 r2 r3 h0 h1 h2 h3] at hi
  have c9:=hc 9 _ rfl
  have c10:=hc 10 _ rfl
  have c11:=hc 11 _ rfl
  rw [Nat.zero_add] at c9 c10 c11
  refine (delf_last g _ _ _ _ w ⟨c9,c10,c11⟩ (fun j=>own.frozenAt j) hi).mono ?_
  rintro e w' ⟨he,w1,hf1,rfl⟩
  have o1:=ownsRow_fr own hf1 (fun _ _=>id)
  have o2:=((o1.stored 9 (.int .u64 0)).1.stored 10 (.string ⟨#[]⟩)).1.stored 11 (.bool false)
  refine ⟨_,he,?_⟩
  unfold PresOut
  rw [presL_pos r0 r1 r2 r3 h3]
  refine ⟨ownsRow_less o2.1,?_⟩
  exact ((((hf1.any:Fr (fun k=>k=g) w w1).setCell (p:=⟨g,9,none⟩) (.inr rfl) _).setCell (p:=⟨g,10,none⟩) (.inr rfl) _).setCell (p:=⟨g,11,none⟩) (.inr rfl) _)
 ·rw [find_pres' r0 r1 r2 r3 h0 h1 h2 h3] at hi
  refine (delf_none _ _ w hi).mono ?_
  rintro e w' ⟨he,hf1⟩
  refine ⟨_,he,?_⟩
  unfold PresOut
  rw [presL_neg r0 r1 r2 r3 h3]
  exact ⟨ownsRow_fr own hf1 (fun _ _=>id),hf1.any⟩
theorem present_any(r0 r1 r2 r3:Reg)(g base)(w:World)(own:w.ownsRow base 58 3 (.slice (some ⟨g,0,none⟩) 4 4) 4 (aflat [r0,r1,r2,r3]))(h0:r0.data≠ [])(h1:r1.data≠ [])(h2:r2.data≠ []):
  Calls prog 22 #[.slice (some ⟨g,0,none⟩) 4 4] w fun e w'=>∃v',e= .returned v'∧PresOut r0 r1 r2 r3 g base w v' w':=by
 have HK:=Lib.hid (present_del r0 r1 r2 r3 g base w own h0 h1 h2)
 clear own h0 h1 h2
 go_enter func22,ntmps22
 go_wp2_with fail
 refine (HK.out).mono ?_
 rintro e w1 ⟨v',rfl,ho⟩
 have HO:=Lib.hid ho
 clear ho
 go_wp2_with fail
 go_ret
 exact ⟨_,rfl,HO.out⟩
structure CatIt where
 a:Option Addr
 n:Nat
 c:Nat
 xs:List Value
def catN(l:List CatIt):Nat:=(l.map CatIt.n).sum
def catX(l:List CatIt):List Value:=l.flatMap CatIt.xs
theorem catN_take(l:List CatIt)(k){x:CatIt}(h:l[k]? =some x):catN (l.take (k+1))=catN (l.take k)+x.n:=by
 unfold catN;rw [List.take_add_one,h];simp
theorem catX_take(l:List CatIt)(k){x:CatIt}(h:l[k]? =some x):catX (l.take (k+1))=catX (l.take k)++x.xs:=by
 unfold catX;rw [List.take_add_one,h];simp
theorem catN_le:∀(l:List CatIt) (k:Nat),catN (l.take k)≤catN l
 | [],_=>by simp [catN]
 |x::l,0=>by simp [catN]
 |x::l,k+1=>by
  have:=catN_le l k
  unfold catN at*
  simp only [List.take_succ_cons,List.map_cons,List.sum_cons]
  omega
theorem grow_nil(n:Nat)(h1:1≤n)(hn:n≤1000000)(w:World):
  Calls prog 61 #[.slice none 0 0, .int .i64 n] w fun e w'=>∃c,e= .returned (.slice (some ⟨w.heap.size,0,none⟩) 0 c)∧w'.ownsRow w.heap.size 58 3 (.slice (some ⟨w.heap.size,0,none⟩) 0 c) 0 []∧Fr No w w':=by
 obtain ⟨i0,hi,hz0,hz1,hz2⟩:=info_parts Tryz.info_areg
 have h:Calls prog 61 #[.slice none 0 0, .int .i64 n] w fun e w'=>
   e= .returned (.slice (some ⟨w.heap.size,0,none⟩) 0 (grownCap w (0+n) 0 58))∧
   w'=w.drew.alloc (.cells (([]:List Value).toArray++Builtin.zeroCells (Value.agg #[.int .u64 0, .string ⟨#[]⟩, .bool false]).cells (0+n-0)++Builtin.zeroCells (Value.agg #[.int .u64 0, .string ⟨#[]⟩, .bool false]).cells (grownCap w (0+n) 0 58-(0+n))) 58):=
  Any8.slices_Grow_grow Tryz.growReg i0 _ hi hz0 (by rw [hz1];decide) none 0 0 n [] w (Nat.le_refl _) (by omega) (by rw [hz2];omega) (by omega) (by simp) (fun _=>rfl) (fun a h=>by cases h)
 refine h.mono ?_
 rintro e w' ⟨rfl,rfl⟩
 have hge:=grownCap_ge w (0+n) 0 58
 have hle:=grownCap_le_maxLen w (0+n) 0 58 (by unfold maxLen;omega)
 refine ⟨_,rfl,⟨rfl, .inr ⟨w.heap.size,_,_,rfl,Nat.le_refl _,heap_alloc_new w.drew _,Nat.zero_le _,hle,?_,by simp⟩⟩,((Fr.refl No w).drew).alloc _⟩
 simp only [Array.size_append,size_zeroCells]
 show 0+(0+n-0)*3+_*3=_*3
 omega
theorem concat_walk(go c0 m N)(l:List CatIt)(w:World)(hl:l.length=m)(hm:m≤1000)(hN:catN l=N)(hN1:1≤N)(hN2:N≤100000)(hc:∀k x,l[k]? =some x→w.cell? ⟨go,k,none⟩=some (.slice x.a x.n x.c))(hx:∀x∈l,(∀W,Fr No w W→SrcAt W (.slice x.a x.n x.c) x.n x.xs)∧x.xs.length=x.n*3∧∀u∈x.xs,u.oneCell'=true):
  Calls prog 27 #[.slice (some ⟨go,0,none⟩) m c0] w fun e w'=>∃v,e= .returned v∧Hid (w'.ownsRow w.heap.size 58 3 v N (catX l)∧Fr No w w'):=by
 obtain ⟨i0,hi,hz0,hz1,hz2⟩:=info_parts Tryz.info_areg
 have HL:=Lib.hid hl
 have HN:=Lib.hid hN
 have HC:Hid (∀k x W,l[k]? =some x→Fr No w W→W.cell? ⟨go,k,none⟩=some (.slice x.a x.n x.c)):=fun k x W h hW=>hW.cell (hc k x h) id
 have HX:=Lib.hid hx
 have HG:Hid (∀W,Calls prog 61 #[.slice none 0 0, .int .i64 N] W fun e w'=>∃c,e= .returned (.slice (some ⟨W.heap.size,0,none⟩) 0 c)∧w'.ownsRow W.heap.size 58 3 (.slice (some ⟨W.heap.size,0,none⟩) 0 c) 0 []∧Fr No W w'):=fun W=>grow_nil N hN1 (by omega) W
 clear hl hc hx hN
 go_enter func27,ntmps27
 go_wp2_with fail
 go_loop [3,5,11] (fun s3 _ s11=>∃k:Nat,k≤m∧s11= .int .i64 k∧s3= .int .i64 (catN (l.take k))) (fun _ _ s11=>m-(intOf s11).toNat)
 case atStart=>exact ⟨0,Nat.zero_le _,rfl,rfl⟩
 case round=>
  obtain ⟨k,hk,rfl,rfl⟩:=hrel
  by_cases hlt:k<m
  ·obtain ⟨x,hx⟩:∃x,l[k]? =some x:=⟨l[k]'(by rw [HL.out];exact hlt),List.getElem?_eq_getElem _⟩
   have hcell:=HC.out k x w hx (Fr.refl _ _)
   have htk:=catN_take l k hx
   have hle:=catN_le l (k+1)
   rw [HN.out] at hle
   have HTK:=Lib.hid htk
   obtain ⟨T,hT⟩:∃T,catN (l.take k)=T:=⟨_,rfl⟩
   rw [hT] at HTK ⊢
   have hsum:T+x.n≤100000:=by have:=HTK.out;omega
   have f1:IntKind.i64.wrap ((T:Int)+(x.n:Int))=(T:Int)+(x.n:Int):=IntWalk.i64_in _ (by omega)
   obtain ⟨xa,xn,xc,xx⟩:=x
   simp only at hcell hsum f1 HTK
   have c1:(0:Int)≤(k:Int):=by omega
   have c2:(k:Int)<(m:Int):=by omega
   have q1:decide ((T:Int)+(xn:Int)<0)=false:=by simp;omega
   clear hx htk hle hT
   go_wp2_with fail
   go_round
   case rel=>exact ⟨k+1,by omega,by go_num,by rw [HTK.out];go_num⟩
   case measure=>simp [intOf]<;>omega
  ·obtain rfl:k=m:=by omega
   have hall:catN (l.take k)=N:=by rw [List.take_of_length_le (by rw [HL.out];exact Nat.le_refl _)];exact HN.out
   rw [hall]
   clear hall
   go_wp2_with fail
   refine (HG.out _).mono ?_
   rintro e w1 ⟨cg,rfl,ho,hf1⟩
   have HO:=Lib.hid ho
   have HF1:=Lib.hid hf1
   clear ho hf1 HG
   go_wp2_with fail
   go_loopw [6,8,27] (fun s6 _ s27 wr=>∃j:Nat,j≤k∧s27= .int .i64 j∧Hid (wr.ownsRow w.heap.size 58 3 s6 (catN (l.take j)) (catX (l.take j))∧Fr No w wr)) (fun _ _ s27 _=>k-(intOf s27).toNat)
   case atStart=>exact ⟨0,Nat.zero_le _,rfl,HO.out,HF1.out⟩
   case round=>
    clear HO HF1
    obtain ⟨j,hj,rfl,HI⟩:=hrel
    by_cases hlj:j<k
    ·obtain ⟨x,hx⟩:∃x,l[j]? =some x:=⟨l[j]'(by rw [HL.out];exact hlj),List.getElem?_eq_getElem _⟩
     obtain ⟨hs,hlen,hone⟩:=HX.out x (List.mem_of_getElem? hx)
     have hcell:=HC.out j x wr hx HI.out.2
     have htk:=catN_take l j hx
     have htx:=catX_take l j hx
     have hle:=catN_le l (j+1)
     rw [HN.out] at hle
     have HTK:=Lib.hid htk
     have HTX:=Lib.hid htx
     have HS:=Lib.hid hs
     have HLEN:=Lib.hid hlen
     have HONE:=Lib.hid hone
     obtain ⟨T,hT⟩:∃T,catN (l.take j)=T:=⟨_,rfl⟩
     obtain ⟨XX,hXX⟩:∃XX,catX (l.take j)=XX:=⟨_,rfl⟩
     rw [hT] at HTK HI
     rw [hXX] at HTX HI
     have hsum:T+x.n≤100000:=by have:=HTK.out;omega
     obtain ⟨xa,xn,xc,xx⟩:=x
     simp only at hcell hsum HTK HTX HS HLEN HONE
     have HOWN:=Lib.hid HI.out.1
     have HFR:=Lib.hid HI.out.2
     have c1:(0:Int)≤(j:Int):=by omega
     have c2:(j:Int)<(k:Int):=by omega
     clear hx hs hlen hone htk htx hle hT hXX HI HX
     go_wp2_with (at_builtin;refine wpList_append_src rfl (.tmp 31) (.tmp 32) 30 rfl w.heap.size 58 i0 _ 3 32 underlying30 hi hz0 hz1 hz2 rfl (by decide) u6 T XX rfl HOWN.out (.slice xa xn xc) xn xx rfl (HS.out _ HFR.out) HLEN.out HONE.out (by unfold maxLen;omega) (by omega) HFR.out.size ?_;intro v' w2 own2 fr2;have HE:Hid (w2.ownsRow w.heap.size 58 3 v' (T+xn) (XX++xx)∧Fr No w w2):=⟨own2,((HFR.out.any.trans (fr2.mono fun q _ hq=>OwnOf.ge HOWN.out hq)):Fr (From w) w w2).ours⟩;clear own2 fr2)
     go_roundw
     case rel=>exact ⟨j+1,by omega,by go_num,by rw [HTK.out,HTX.out];exact HE⟩
     case measure=>simp [intOf]<;>omega
    ·obtain rfl:j=k:=by omega
     have HE:=HI
     rw [List.take_of_length_le (by rw [HL.out];exact Nat.le_refl _),HN.out] at HE
     clear HI HX HC
     go_wp2_with fail
     go_ret
     exact ⟨_,rfl,HE⟩
theorem KSt.updates{w0 wr b mb S m A H T}(h:KSt w0 b mb S m A H T wr)(i)(key val:List UInt8)(r)(hr:(mupdate S m i key val).2=r):
  Calls prog 29 #[.pointer (some ⟨b,0,none⟩), .int .i64 i, .string ⟨key.toArray⟩, .string ⟨val.toArray⟩] wr fun e w'=>e= .returned (.int .i64 r)∧Hid (KSt w0 b mb (mupdate S m i key val).1.1 (mupdate S m i key val).1.2 A H T w')∧Fr (Or2 H T) wr w':=
 h.update i key val _ _ r (by rw [←hr])
theorem KSt.deletes{w0 wr b mb S m A H T}(h:KSt w0 b mb S m A H T wr)(i)(key:List UInt8)(r)(hr:(mdelete S i key).2=r):
  Calls prog 144 #[.pointer (some ⟨b,0,none⟩), .int .i64 i, .string ⟨key.toArray⟩] wr fun e w'=>e= .returned (.int .i64 r)∧Hid (KSt w0 b mb (mdelete S i key).1 m A H T w')∧Fr H wr w':=
 h.delete i key _ r (by rw [←hr])
theorem Tryz.info_cu64:(prog.info? 37).map (fun i=>(i.zero,i.size,i.bytes))=some (some (.int .u64 0),1,8):=by kernel_rfl
theorem slice_ne_u64(w a n c):(binOp .eql 33 (.slice (some a) n c) (.slice none 0 0)).run prog w= .ok (.bool false) w:=Lib.run_eql_slice_nil w 33 37 (some a) n c 0 0 underlying33
theorem slice_eq_u64(w n c):(binOp .eql 33 (.slice none n c) (.slice none 0 0)).run prog w= .ok (.bool true) w:=Lib.run_eql_slice_nil w 33 37 none n c 0 0 underlying33
theorem clone_u64(g off n c)(vs:List Value)(w:World)(hl:vs.length=n*1)(h1:1≤n)(hm:n≤1000000)(hc:CellsAt w g off vs)(hone:∀u∈vs,u.oneCell'=true):
  Calls prog 31 #[.slice (some ⟨g,off,none⟩) n c] w (ClonePost n vs w 1):=by
 have HC:=Lib.hid hc
 have HL:=Lib.hid hl
 clear hc hl
 have kn:=fun w=>slice_ne_u64 w ⟨g,off,none⟩ n c
 obtain ⟨i0,hi,hz0,hz1,hz2⟩:=info_parts Tryz.info_cu64
 have hown:(w.alloc (.cells #[] 37)).ownsRow w.heap.size 37 1 (.slice (some ⟨w.heap.size,0,none⟩) 0 0) 0 []:=World.ownsRow_made w #[] 0 (Nat.le_refl _) (by unfold maxLen;omega) rfl
 have hnews:∀j u,vs[j]? =some u→(w.alloc (.cells #[] 37)).cell? ((⟨g,off,none⟩:Addr).add j)=some u:=fun j u hj=>by
  rw [addr_add];exact ((Fr.refl No w).alloc _).cell (HC.out j u hj) id
 go_enter func31,ntmps31
 go_wp2_with (at_builtin;refine wpList_append_lies _ rfl _ _ 33 rfl w.heap.size 37 i0 _ 1 8 underlying33 hi hz0 hz1 hz2 rfl (by decide) _ 0 [] rfl hown ⟨g,off,none⟩ n c vs rfl HL.out hnews hone (by omega) (by unfold maxLen;omega) (by omega) (by simp) _ rfl ?_;intro gg cap2 w1 hown2 hgrow hat hlt2)
 go_ret
 rw [Nat.zero_add,List.nil_append] at hown2
 have:=clone_post (v:= .slice none 0 0) hown2 hgrow hlt2
 simpa using this
theorem clone_u64_nil(n c w):Calls prog 31 #[.slice none n c] w fun e w'=>e= .returned (.slice none 0 0)∧w=w':=by
 have kn:=fun w=>slice_eq_u64 w n c
 go_enter func31,ntmps31
 go_wp2_with fail
 go_ret
 exact ⟨rfl,rfl⟩
theorem clone_u64_zero'(a c)(w:World):Calls prog 31 #[.slice (some a) 0 c] w fun e w'=>e= .returned (.slice (some ⟨w.heap.size,0,none⟩) 0 0)∧Fr No w w'∧w.heap.size<w'.heap.size:=by
 have kn:=fun w=>slice_ne_u64 w a 0 c
 go_enter func31,ntmps31
 go_wp2_with fail
 go_ret
 exact ⟨rfl,(Fr.refl _ _).alloc _,by simp only [World.alloc,Array.size_push];omega⟩
def U64sIn(w:World)(v:Value)(l:List Int):Prop:=(l= []∧∃a c,v= .slice a 0 c)∨∃g off cap,v= .slice (some ⟨g,off,none⟩) l.length cap∧l.length≤cap∧CellsAt w g off (l.map (Value.int .u64))
theorem U64sIn.form{w v}{l:List Int}(h:U64sIn w v l):∃a c,v= .slice a l.length c:=by
 rcases h with ⟨rfl,a,c,rfl⟩|⟨g,off,cap,rfl,hl,hc⟩
 ·exact ⟨a,c,rfl⟩
 ·exact ⟨_,_,rfl⟩
def Apart(S:Nat→Prop)(v:Value):Prop:=∀k,v.ownBlock=some k→¬S k
theorem U64sIn.fr{S w w' v l}(h:U64sIn w v l)(hf:Fr S w w')(hn:Apart S v):U64sIn w' v l:=by
 rcases h with h|⟨g,off,cap,rfl,hl,hc⟩
 ·exact .inl h
 ·exact .inr ⟨g,off,cap,rfl,hl,hf.cells hc (hn g rfl)⟩
theorem MapsIn.frS{S w w' v l}(h:MapsIn w v l)(hf:Fr S w w')(hn:Apart S v):MapsIn w' v l:=by
 rcases h with h|⟨g,off,cap,rfl,hc⟩
 ·exact .inl h
 ·exact .inr ⟨g,off,cap,rfl,hf.cells hc (hn g rfl)⟩
theorem RegsAt.frS{S w w' v l}(h:RegsAt w v l)(hf:Fr S w w')(hn:Apart S v):RegsAt w' v l:=by
 refine ⟨h.1,?_⟩
 rcases h.2 with h|⟨g,off,cap,rfl,hc⟩
 ·exact .inl h
 ·exact .inr ⟨g,off,cap,rfl,hf.cells hc (hn g rfl)⟩
theorem clone_maps_zero'(a c)(w:World):Calls prog 30 #[.slice (some a) 0 c] w fun e w'=>e= .returned (.slice (some ⟨w.heap.size,0,none⟩) 0 0)∧Fr No w w'∧w.heap.size<w'.heap.size:=by
 have kn:=fun w=>slice_ne_maps w a 0 c
 go_enter func30,ntmps30
 go_wp2_with fail
 go_ret
 exact ⟨rfl,(Fr.refl _ _).alloc _,by simp only [World.alloc,Array.size_push];omega⟩
theorem clone_mapsIn(v)(l:List MapD)(W:World)(h:MapsIn W v l)(hm:l.length≤1000000):
  Calls prog 30 #[v] W fun e w'=>∃a c,e= .returned (.slice a l.length c)∧Hid (MapsIn w' (.slice a l.length c) l∧Fr No W w'∧∀k,(Value.slice a l.length c).ownBlock=some k→W.heap.size≤k∧k<w'.heap.size):=by
 by_cases h0:l= []
 ·subst h0
  obtain ⟨a,c,rfl⟩:=h.form
  cases a with
  |none=>
   refine (clone_maps_nil 0 c W).mono ?_
   rintro e w' ⟨he,rfl⟩
   exact ⟨_,_,he, .inl ⟨rfl,_,_,rfl⟩,Fr.refl _ _,fun k hk=>by simp [Value.ownBlock] at hk⟩
  |some a=>
   refine (clone_maps_zero' a c W).mono ?_
   rintro e w' ⟨he,hf,hs⟩
   exact ⟨_,_,he, .inl ⟨rfl,_,_,rfl⟩,hf,fun k hk=>by simp [Value.ownBlock] at hk;omega⟩
 ·rcases h with ⟨rfl,_⟩|⟨g,off,cap,rfl,hc⟩
  ·exact absurd rfl h0
  ·refine (clone_maps g off l.length cap (mflat l) W (by rw [mflat_length]) (by have:=List.length_pos_iff.2 h0;omega) hm hc (mflat_one l)).mono ?_
   rintro e w' ⟨gg,cap2,he,h1,h2,h3,_,_,hf⟩
   exact ⟨_,_,he, .inr ⟨gg,0,cap2,rfl,h3⟩,hf,fun k hk=>by simp [Value.ownBlock] at hk;omega⟩
theorem clone_draws(v)(l:List Int)(W:World)(h:U64sIn W v l)(hm:l.length≤1000000):
  Calls prog 31 #[v] W fun e w'=>∃a c,e= .returned (.slice a l.length c)∧Hid (U64sIn w' (.slice a l.length c) l∧Fr No W w'∧∀k,(Value.slice a l.length c).ownBlock=some k→W.heap.size≤k∧k<w'.heap.size):=by
 by_cases h0:l= []
 ·subst h0
  obtain ⟨a,c,rfl⟩:=h.form
  cases a with
  |none=>
   refine (clone_u64_nil 0 c W).mono ?_
   rintro e w' ⟨he,rfl⟩
   exact ⟨_,_,he, .inl ⟨rfl,_,_,rfl⟩,Fr.refl _ _,fun k hk=>by simp [Value.ownBlock] at hk⟩
  |some a=>
   refine (clone_u64_zero' a c W).mono ?_
   rintro e w' ⟨he,hf,hs⟩
   exact ⟨_,_,he, .inl ⟨rfl,_,_,rfl⟩,hf,fun k hk=>by simp [Value.ownBlock] at hk;omega⟩
 ·rcases h with ⟨rfl,_⟩|⟨g,off,cap,rfl,hl,hc⟩
  ·exact absurd rfl h0
  ·refine (clone_u64 g off l.length cap (l.map (Value.int .u64)) W (by simp) (by have:=List.length_pos_iff.2 h0;omega) hm hc (by intro u hu;obtain ⟨x,_,rfl⟩:=List.mem_map.1 hu;rfl)).mono ?_
   rintro e w' ⟨gg,cap2,he,h1,h2,h3,_,h5,hf⟩
   exact ⟨_,_,he, .inr ⟨gg,0,cap2,rfl,h5,h3⟩,hf,fun k hk=>by simp [Value.ownBlock] at hk;omega⟩
theorem maps_on(w0)(l:List MapD)(m)(h:mayL l=true)(hh:holdsB (mregsOf l) m=true)(hok:MemOk m)(v mb T)(W:World)(hv:MapsIn W v l)(hm:MemAt W mb m T)(hT:∀k,T k→From w0 k∧k<W.heap.size)(hf:Fr No w0 W):
  Calls prog 28 #[v, .pointer (some ⟨mb,0,none⟩)] W fun e w'=>∃b A H,e= .returned (.tuple #[.pointer (some ⟨b,0,none⟩), .int .i64 0])∧Hid (KSt w0 b mb (l.map Tab.new) m A H T w'∧(∀k,A k∨H k∨T k→k<w'.heap.size)∧(∀k,H k→W.heap.size≤k)∧(∀k,A k→W.heap.size≤k)∧Fr No W w'):=by
 have h4:=((mayL_iff l).1 h).1
 refine (mnew_any hm hok v l hv (by omega)).mono ?_
 intro e w' hq
 unfold NewQ at hq
 rw [if_pos ⟨h,hh⟩] at hq
 obtain ⟨b,he,⟨A,H,ha,hA,hH⟩,hf2⟩:=hq
 have hsz:=hf.size
 have hsz2:=hf2.size
 refine ⟨b,A,H,he,⟨ha,hm.fr hf2 (fun _ _=>id),fun k hk=>⟨fun hk2=> ?_,fun hk2=> ?_⟩,holds_new h hh,hf.trans hf2,fun k hk=> ?_⟩,(fun k hk=> ?_),(fun k hk=>(hH k hk).1),(fun k hk=> ?_),hf2⟩
 ·have:=(hT k hk).2
  rcases hA k hk2 with h|h
  ·omega
  ·exact h
 ·have:=(hT k hk).2
  have:=hH k hk2
  omega
 ·rcases hk with hk|hk
  ·have:=hH k hk
   unfold From
   omega
  ·exact (hT k hk).1
 ·rcases hk with hk|hk|hk
  ·rcases hA k hk with h|h
   ·exact h.2
   ·exact h.elim
  ·exact (hH k hk).2
  ·have:=(hT k hk).2
   omega
 ·rcases hA k hk with h|h
  ·exact h.1
  ·exact h.elim
def b8(x:Int):ByteArray:=⟨(leBytes 8 x.toNat).toArray⟩
theorem b8_size(x:Int):(b8 x).size=8:=by
 show (leBytes 8 x.toNat).toArray.size=8
 simp
def ownR0(p:Nat):Reg:=⟨65536,leBytes 8 196608++leBytes 8 (196608+p),false⟩
def ownR1(mark:Int):Reg:=⟨65552,leBytes 8 mark.toNat,true⟩
def ownR2:Reg:=⟨131072,List.replicate 512 0,true⟩
def ownR3(P:List UInt8):Reg:=⟨196608,P,true⟩
def natR:Reg:=⟨262144,List.replicate 128 0,true⟩
theorem own_form{w:World}{base size n e v xs}(h:w.ownsRow base e size v n xs):∃a c,v= .slice a n c:=by
 rcases h.2 with ⟨rfl,h0⟩|⟨g,cap,cur,hv,_⟩
 ·subst h0;exact ⟨_,_,rfl⟩
 ·exact ⟨_,_,hv⟩
theorem mregions_src(v)(l:List MapD)(w)(h:MapsIn w v l)(hq:mayL l=true):
  Calls prog 25 #[v] w fun e w'=>∃u,e= .returned u∧Hid (SrcAt w' u l.length (aflat (mregs l))∧Fr No w w'):=by
 have h4:=((mayL_iff l).1 hq).1
 by_cases h0:l= []
 ·subst h0
  have hmay:=may_any v [] w h (by simp)
  obtain ⟨a,c,rfl⟩:=h.form
  refine (mregions_zero a c w (by simpa [mayL] using hmay)).mono ?_
  rintro e w' ⟨he,hf⟩
  exact ⟨_,he, .inl ⟨rfl,rfl,rfl⟩,hf⟩
 ·refine (mregions_any v l w h (by omega)).mono ?_
  rintro e w' ⟨u,he,hu,hf⟩
  rw [show mregsOf l=mregs l by unfold mregsOf;rw [if_pos hq]] at hu
  refine ⟨u,he,?_,hf⟩
  rcases hu.2 with ⟨h1,_⟩|⟨g,off,cap,rfl,hc⟩
  ·have:=mregs_length l
   rw [h1] at this
   exact absurd (List.eq_nil_of_length_eq_zero this.symm) h0
  ·rw [mregs_length]
   exact .inr ⟨_,_,rfl,fun j v hj=>by rw [Addr.add_lit];exact hc j v hj⟩
theorem aflat_one(l):∀u∈aflat l,u.oneCell'=true:=by
 intro u hu
 obtain ⟨r,_,hr⟩:=List.mem_flatMap.1 hu
 simp only [Reg.cells,List.mem_cons,List.not_mem_nil,or_false] at hr
 rcases hr with rfl|rfl|rfl<;>rfl
theorem aflat_app(a b):aflat (a++b)=aflat a++aflat b:=by simp [aflat]
theorem src_of_own{w:World}{base n v xs}(h:w.ownsRow base 58 3 v n xs)(hn:0<n):SrcAt w v n xs:=by
 obtain ⟨g,cap,rfl,_,hc⟩:=cells_of_owns h hn
 exact .inr ⟨_,_,rfl,fun j u hj=>by rw [Addr.add_lit];exact hc j u hj⟩
theorem concat_row(base N2 oc no co oa ao)(RL more:List Reg)(W:World)(own:W.ownsRow base 58 3 (.slice oa N2 oc) N2 (aflat RL))(h1:1≤N2)(hb:N2+1+no≤100000)(hm:SrcAt W (.slice ao no co) no (aflat more))(hno:more.length=no)(hRL:RL.length=N2)(ht:∀r∈RL++natR::more,r.typed):
  Calls prog 27 #[.slice (some ⟨W.heap.size+1+1,0,none⟩) 3 3] (((W.alloc (.cells #[.int .u64 262144, .string (zs 128), .bool true] 58)).alloc (.cells #[.int .u64 262144, .string (zs 128), .bool true] 58)).alloc (.cells #[.slice oa N2 oc, .slice (some ⟨W.heap.size+1,0,none⟩) 1 1, .slice ao no co] 30))
   fun e w'=>∃v,e= .returned v∧Hid (RegsAt w' v (RL++natR::more)∧Fr No W w'):=by
 obtain ⟨W1,hW1⟩:∃W1,W1=W.alloc (.cells #[.int .u64 262144, .string (zs 128), .bool true] 58):=⟨_,rfl⟩
 have s1:W1.heap.size=W.heap.size+1:=by rw [hW1];simp only [World.alloc,Array.size_push]
 have f1:Fr No W W1:=by rw [hW1];exact (Fr.refl _ _).alloc _
 rw [←hW1]
 obtain ⟨W2,hW2⟩:∃W2,W2=W1.alloc (.cells #[.int .u64 262144, .string (zs 128), .bool true] 58):=⟨_,rfl⟩
 have s2:W2.heap.size=W.heap.size+1+1:=by rw [hW2,←s1];simp only [World.alloc,Array.size_push]
 have f2:Fr No W1 W2:=by rw [hW2];exact (Fr.refl _ _).alloc _
 have cN:CellsAt W2 (W.heap.size+1) 0 (aflat [natR]):=by rw [hW2,←s1];exact CellsAt.new W1 (aflat [natR]) _
 rw [←hW2]
 obtain ⟨W3,hW3⟩:∃W3,W3=W2.alloc (.cells #[.slice oa N2 oc, .slice (some ⟨W.heap.size+1,0,none⟩) 1 1, .slice ao no co] 30):=⟨_,rfl⟩
 have f3:Fr No W2 W3:=by rw [hW3];exact (Fr.refl _ _).alloc _
 have cS:CellsAt W3 (W.heap.size+1+1) 0 [.slice oa N2 oc, .slice (some ⟨W.heap.size+1,0,none⟩) 1 1, .slice ao no co]:=by rw [hW3,←s2];exact CellsAt.new W2 _ _
 rw [←hW3]
 have f:Fr No W W3:=(f1.trans f2).trans f3
 have lR:=aflat_length RL
 have lM:=aflat_length more
 refine (concat_walk (W.heap.size+1+1) 3 3 (N2+1+no) [⟨oa,N2,oc,aflat RL⟩,⟨some ⟨W.heap.size+1,0,none⟩,1,1,aflat [natR]⟩,⟨ao,no,co,aflat more⟩] W3 rfl (by omega) (by simp only [catN,List.map_cons,List.map_nil,List.sum_cons,List.sum_nil];omega) (by omega) (by omega) ?_ ?_).mono ?_
 ·intro k x hx
  match k,hx with
  |0,hx=>cases hx;have:=cS 0 _ rfl;rwa [Nat.zero_add] at this
  |1,hx=>cases hx;have:=cS 1 _ rfl;rwa [Nat.zero_add] at this
  |2,hx=>cases hx;have:=cS 2 _ rfl;rwa [Nat.zero_add] at this
  |k+3,hx=>simp at hx
 ·intro x hx
  simp only [List.mem_cons,List.not_mem_nil,or_false] at hx
  rcases hx with rfl|rfl|rfl
  ·exact ⟨fun W' hW'=>(src_of_own own h1).fr (f.trans hW') (fun _ _=>id),by show (aflat RL).length=N2*3;omega,aflat_one _⟩
  ·exact ⟨fun W' hW'=> .inr ⟨_,_,rfl,fun j u hj=>by rw [Addr.add_lit];exact (f3.trans hW').cells cN id j u hj⟩,rfl,aflat_one _⟩
  ·exact ⟨fun W' hW'=>hm.fr (f.trans hW') (fun _ _=>id),by show (aflat more).length=no*3;omega,aflat_one _⟩
 ·rintro e w' ⟨v,he,h⟩
  refine ⟨v,he,⟨ht,?_⟩,f.trans h.out.2⟩
  have hx:catX [⟨oa,N2,oc,aflat RL⟩,⟨some ⟨W.heap.size+1,0,none⟩,1,1,aflat [natR]⟩,⟨ao,no,co,aflat more⟩]=aflat (RL++natR::more):=by
   rw [aflat_app]
   simp [catX,aflat]
  have ho:=h.out.1
  rw [hx] at ho
  obtain ⟨g,cap,rfl,_,hc⟩:=cells_of_owns ho (by omega)
  refine .inr ⟨g,0,cap,?_,hc⟩
  rw [List.length_append,List.length_cons,hRL,hno,show N2+(no+1)=N2+1+no by omega]
theorem b8_app(x y:Int):b8 x++b8 y=⟨(leBytes 8 x.toNat++leBytes 8 y.toNat).toArray⟩:=by
 apply ByteArray.ext
 simp [b8,ByteArray.data_append]
theorem present_row(Pl:List UInt8)(p:Nat)(mark:Int)(base:Nat)(W:World)(hb:base≤W.heap.size):
  Calls prog 22 #[.slice (some ⟨W.heap.size,0,none⟩) 4 4] (W.alloc (.cells #[.int .u64 65536, .string (b8 196608++b8 (196608+(p:Int))), .bool false, .int .u64 65552, .string (b8 mark), .bool true, .int .u64 131072, .string (zs 512), .bool true, .int .u64 196608, .string ⟨Pl.toArray⟩, .bool true] 58))
   fun e w'=>∃v',e= .returned v'∧Hid (w'.ownsRow base 58 3 v' (presL (ownR0 p) (ownR1 mark) ownR2 (ownR3 Pl)).length (aflat (presL (ownR0 p) (ownR1 mark) ownR2 (ownR3 Pl)))∧Fr No W w'):=by
 have hl:∀n v,leBytes (n+1) v≠ []:=fun n v h=>by have:=congrArg List.length h;simp at this
 refine (present_any (ownR0 p) (ownR1 mark) ownR2 (ownR3 Pl) W.heap.size base _ ?_ ?_ ?_ ?_).mono ?_
 ·refine ⟨rfl, .inr ⟨W.heap.size,4,_,rfl,hb,heap_alloc_new W _,by decide,by decide,rfl,?_⟩⟩
  rw [b8_app]
  rfl
 ·unfold ownR0
  intro h
  exact hl 7 _ (List.append_eq_nil_iff.1 h).1
 ·exact hl 7 _
 ·show List.replicate 512 (0:UInt8)≠ []
  rw [Ne,List.replicate_eq_nil_iff]
  decide
 ·rintro e w' ⟨v',he,ho,hf⟩
  refine ⟨v',he,ho,?_⟩
  have h1:Fr (From W) W w':=(((Fr.refl No W).alloc _).any).trans (hf.mono fun q _ hq=>by show W.heap.size≤q;omega)
  exact h1.ours
structure WAt(w0:World)(bw b mb:Nat)(ds:List MapD)(p:Nat)(RL:List Reg)(D:List Int)(S:List Tab)(m:List Reg)(A H T:Nat→Prop)(mv ov dv:Value)(wr:World):Prop where
 c0:wr.cell? ⟨bw,0,none⟩=some (.bool true)
 c1:wr.cell? ⟨bw,1,none⟩=some mv
 c2:wr.cell? ⟨bw,2,none⟩=some (.int .i64 p)
 c3:wr.cell? ⟨bw,3,none⟩=some ov
 c4:wr.cell? ⟨bw,4,none⟩=some (.pointer (some ⟨mb,0,none⟩))
 c5:wr.cell? ⟨bw,5,none⟩=some (.pointer (some ⟨b,0,none⟩))
 c6:wr.cell? ⟨bw,6,none⟩=some dv
 open6:wr.frozen? ⟨bw,6,none⟩=false
 nb:¬A bw∧¬H bw∧¬T bw
 lo:From w0 bw
 maps:MapsIn wr mv ds
 mapsA:Apart (fun k=>H k∨T k∨k=bw) mv
 own:RegsAt wr ov RL
 ownA:Apart (fun k=>H k∨T k∨k=bw) ov
 draws:U64sIn wr dv D
 drawsA:Apart (fun k=>H k∨T k∨k=bw) dv
 k:KSt w0 b mb S m A H T wr
 lt:∀k,A k∨H k∨T k→k<wr.heap.size
 ltv:∀k,mv.ownBlock=some k∨ov.ownBlock=some k∨dv.ownBlock=some k→k<wr.heap.size
theorem WAt.start{w W0 w4 w5 w6 w7 W8 w9:World}{B b mb N2 p ds}{RL mm:List Reg}{S D A H}{mv ov dv:Value}(t)(hB:B=w.heap.size)(hB4:B<w4.heap.size)(hf4:w.heap.size≤w4.heap.size)(h45:w4.heap.size≤w5.heap.size)(h56:w5.heap.size≤w6.heap.size)(hk:KSt w b mb S mm A H (Made w4 w5) w6)(hlt:∀k,A k∨H k∨Made w4 w5 k→k<w6.heap.size)(hH:∀k,H k→w5.heap.size≤k)(hA:∀k,A k→w5.heap.size≤k)(f67:Fr No w6 w7)(f78:Fr (fun k=>k=B) w7 W8)(f89:Fr No W8 w9)(hm:MapsIn w7 mv ds)(hmA:∀k,mv.ownBlock=some k→w6.heap.size≤k∧k<w7.heap.size)(ho4:w4.ownsRow W0.heap.size 58 3 ov N2 (aflat RL))(ho:w6.ownsRow W0.heap.size 58 3 ov N2 (aflat RL))(hoB:B<W0.heap.size)(hRL:RL.length=N2)(hN2:0<N2)(htyp:∀r∈RL,r.typed)(hd:U64sIn w9 dv D)(hdA:∀k,dv.ownBlock=some k→W8.heap.size≤k∧k<w9.heap.size):
  WAt w w9.heap.size b mb ds p RL D S mm A H (Made w4 w5) mv ov dv (w9.alloc (.cells #[.bool true,mv, .int .i64 p,ov, .pointer (some ⟨mb,0,none⟩), .pointer (some ⟨b,0,none⟩),dv] t)):=by
 obtain ⟨w',hw'⟩:∃w',w'=w9.alloc (.cells #[.bool true,mv, .int .i64 p,ov, .pointer (some ⟨mb,0,none⟩), .pointer (some ⟨b,0,none⟩),dv] t):=⟨_,rfl⟩
 have f9:Fr No w9 w':=by rw [hw'];exact (Fr.refl _ _).alloc _
 have cs:CellsAt w' w9.heap.size 0 [.bool true,mv, .int .i64 p,ov, .pointer (some ⟨mb,0,none⟩), .pointer (some ⟨b,0,none⟩),dv]:=by rw [hw'];exact CellsAt.new w9 _ t
 have fz:w'.frozen? ⟨w9.heap.size,6,none⟩=false:=by rw [hw'];exact World.frozen?_alloc_new _ _ _ _
 have sz:w'.heap.size=w9.heap.size+1:=by rw [hw'];simp only [World.alloc,Array.size_push]
 rw [←hw']
 have z67:=f67.size
 have z78:=f78.size
 have z89:=f89.size
 have big:∀k,A k∨H k∨Made w4 w5 k→k<w9.heap.size:=fun k hk=>by have:=hlt k hk;omega
 have hBB:∀k,A k∨H k∨Made w4 w5 k→k≠B:=fun k hk=>by
  rcases hk with h|h|h
  ·have:=hA k h;omega
  ·have:=hH k h;omega
  ·have:=h.1;omega
 have k7:KSt w b mb S mm A H (Made w4 w5) w7:=hk.to f67
 have k8:KSt w b mb S mm A H (Made w4 w5) W8:=k7.apart f78 (fun k hk=>by show w.heap.size≤k;omega) (fun k h=>hBB k (.inl h)) (fun k h=>hBB k (.inr (.inl h))) (fun k h=>hBB k (.inr (.inr h)))
 have k9:KSt w b mb S mm A H (Made w4 w5) w':=(k8.to f89).to f9
 have c:=fun j u (h:([.bool true,mv, .int .i64 p,ov, .pointer (some ⟨mb,0,none⟩), .pointer (some ⟨b,0,none⟩),dv]:List Value)[j]? =some u)=>cs j u h
 simp only [Nat.zero_add] at c
 obtain ⟨g,cap,hov,hg,_⟩:=cells_of_owns ho4 hN2
 have hg4:g<w4.heap.size:=by
  rcases ho4.2 with ⟨_,h0⟩|⟨g',cap',cur,hv,_,hgs,_⟩
  ·omega
  ·rw [hov] at hv
   injection hv with e1 _ _
   cases e1
   exact (Array.getElem?_eq_some_iff.1 hgs).1
 refine ⟨c 0 _ rfl,c 1 _ rfl,c 2 _ rfl,c 3 _ rfl,c 4 _ rfl,c 5 _ rfl,c 6 _ rfl,fz,⟨fun h=> ?_,fun h=> ?_,fun h=> ?_⟩,?_,?_,?_,?_,?_,?_,?_,k9,?_,?_⟩
 ·have:=big _ (.inl h);omega
 ·have:=big _ (.inr (.inl h));omega
 ·have:=big _ (.inr (.inr h));omega
 ·show w.heap.size≤w9.heap.size
  have:=hk.fr.size
  omega
 ·exact ((hm.frS f78 (fun k hk (e:k=B)=>by have:=hmA k hk;omega)).fr f89).fr f9
 ·intro k hk
  have h1:=hmA k hk
  rintro (h|h|h)
  ·have:=hlt k (.inr (.inl h));omega
  ·have:=hlt k (.inr (.inr h));omega
  ·omega
 ·obtain ⟨g2,cap2,hov2,_,hc2⟩:=cells_of_owns ho hN2
  rw [hov] at hov2 ⊢
  injection hov2 with e1 _ e3
  cases e1
  refine ⟨htyp, .inr ⟨g,0,cap,by rw [hRL],?_⟩⟩
  exact (f9.cells (f89.cells (f78.cells (f67.cells hc2 id) (fun (e:g=B)=>by omega)) id) id)
 ·intro k hk
  rw [hov] at hk
  simp [Value.ownBlock] at hk
  subst hk
  rintro (h|h|h)
  ·have:=hH _ h;omega
  ·have:=h.1;omega
  ·omega
 ·exact hd.fr f9 (fun _ _=>id)
 ·intro k hk
  have h1:=hdA k hk
  rintro (h|h|h)
  ·have:=hlt k (.inr (.inl h));omega
  ·have:=hlt k (.inr (.inr h));omega
  ·omega
 ·intro k hk
  have:=big k hk
  omega
 ·rintro k (hk|hk|hk)
  ·have:=hmA k hk;omega
  ·rw [hov] at hk
   simp [Value.ownBlock] at hk
   omega
  ·have:=hdA k hk;omega
theorem hnone_any(bw)(w:World)(h:w.cell? ⟨bw,0,none⟩=some (.bool true)):Calls prog 32 #[.pointer (some ⟨bw,0,none⟩)] w fun e w'=>e= .returned (.bool false)∧w=w':=by
 go_enter func32,ntmps32
 go_wp2_with fail
 go_ret
 exact ⟨rfl,rfl⟩
theorem hnone_hid(bw)(w:World)(h:w.cell? ⟨bw,0,none⟩=some (.bool true)):Hid (Calls prog 32 #[.pointer (some ⟨bw,0,none⟩)] w fun e w'=>e= .returned (.bool false)∧w=w'):=hnone_any bw w h
theorem hmemory_any(bw mb)(w:World)(h:w.cell? ⟨bw,0,none⟩=some (.bool true))(h4:w.cell? ⟨bw,4,none⟩=some (.pointer (some ⟨mb,0,none⟩))):
  Calls prog 13 #[.pointer (some ⟨bw,0,none⟩)] w fun e w'=>e= .returned (.pointer (some ⟨mb,0,none⟩))∧w=w':=by
 have HN:=hnone_hid bw w h
 clear h
 go_enter func13,ntmps13
 go_wp2_with (go_at_call 32;(with_reducible refine (HN.out).mono ?_);rintro e w1 ⟨rfl,rfl⟩)
 go_ret
 exact ⟨rfl,rfl⟩
theorem U64sIn.tail{w g off c d}{l:List Int}(h:l.length+1≤c)(hc:CellsAt w g off ((d::l).map (Value.int .u64))):U64sIn w (.slice (if c=1 then some ⟨g,off,none⟩ else some ⟨g,off+1,none⟩) (l.length+1-1) (c-1)) l:=by
 rw [Nat.add_sub_cancel]
 by_cases h0:l= []
 ·subst h0
  exact .inl ⟨rfl,_,_,rfl⟩
 ·have:0<l.length:=List.length_pos_iff.2 h0
  rw [if_neg (by omega)]
  refine .inr ⟨g,off+1,c-1,rfl,by omega,fun j u hj=> ?_⟩
  rw [show off+1+j=off+(j+1) by omega]
  exact hc (j+1) u (by simpa using hj)
def drawN(D:List Int):Int:=D.headD 0
end Go.Proofs.YtfmcmfiebehhiaaGreatDoor

