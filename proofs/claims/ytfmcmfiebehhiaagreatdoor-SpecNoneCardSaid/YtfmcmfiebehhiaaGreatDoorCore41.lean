/- package spec: Run. firewalllaw09.HelpersNone: a world that is none. package machine: in a world that is none. -/
import Derived.Test.YtfmcmfiebehhiaaGreatDoorCore40
import Derived.Test.YtfmcmfiebehhiaaGreatDoorCore24
import Derived.Handy
import Derived.Test.YtfmcmfiebehhiaaGreatDoorCore29
set_option linter.all false
set_option linter.unusedVariables false
set_option linter.unusedSimpArgs false
set_option maxRecDepth 100000
set_option maxHeartbeats 8000000
namespace Go.Proofs.YtfmcmfiebehhiaaGreatDoor
open Go.Proofs.Tryz
open Go.RowKit
def SpVal(Q:Except Int (Nat×Nat×TM))(B:Nat)(a k:Int)(tv:Value)(sq er:Int)(w:World):Prop:=
 (∃r n t,Q= .ok (r,n,t)∧a=(r:Int)∧k=(n:Int)∧er=0∧sq=(t.sq:Int)∧w.ownsRow 0 37 1 tv t.tr.length (u64L t.tr)∧∀k,tv.ownBlock=some k→B≤k)∨(Q= .error er∧a=0∧k=0∧tv= .slice none 0 0∧sq=0∧er≠0)
def SpTo(w0 wo:World)(N bw mb:Nat)(ds:List MapD)(pk:Nat)(RL:RQ)(Q:Except Int (Nat×Nat×TM)×HW)(e:Ending)(w':World):Prop:=
 ∃a k tv sq er,e= .returned (.tuple #[outV a k, .agg #[tv, .int .i64 sq], .int .i64 er])∧Hid (WM w0 N bw mb ds pk RL Q.2 w')∧Hid (Fr (Zof w0 N RL) wo w')∧Hid (SpVal Q.1 wo.heap.size a k tv sq er w')
def RAt(w0 wo:World)(N bw mb:Nat)(ds:List MapD)(pk:Nat)(RL:RQ)(bp br bi bs:Nat)(code:List UInt8)(window:Nat)(script:List UInt8)(K:Nat→Prop)(m:Nat)(A:Except Int (Nat×Nat×TM)×HW)(e:Int)(k:Nat)(w:World):Prop:=
 ∃R P q t,RS w0 wo N bw mb ds pk RL bp br bi bs code window script K R P q t 0 0 (.slice none 0 0) 0 w∧q.waits.length≤k∧t.tr.length≤66*k∧t.sq≤32*k∧((e=0∧k≤m∧A=runS ds code window (m-k) k q t)∨(e≠0∧k≤m+1∧A=(.error e,q.W)))
theorem wpList_built{P:Program}{w:World}{ops:Array Oper}{rest:List Oper}{a:Act}{Q:Exit→Act→World→Prop}{t:TypeId}{parts:Array (Nat×Operand)}{d:Option Tmp}{ty:TypeId}{pos:String}{af:Array Edge}(vs:Array (Nat×Value))(he:parts.map (fun (i,x)=>(i,a.eval x))=vs)(cells:Array Value)(hc:P.built t vs.toList=some cells)
  (h:wpList P ops Q rest (a.put d (.agg cells)) w):wpList P ops Q (⟨d, .build t parts,ty,pos,af,none⟩::rest) a w:=
 wpList_plain rfl fun _ hK=>do_val (do_build he hc) (hK _ _ h)
theorem ScrAt.more{w:World}{v:Value}{script:List UInt8}{K K2:Nat→Prop}(h:ScrAt w v script K)(hK:∀k,K k→K2 k):ScrAt w v script K2:=by
 rcases h with h|⟨g,off,cap,e,hc,hk⟩
 ·exact .inl h
 ·exact .inr ⟨g,off,cap,e,hc,hK g hk⟩
theorem SpRun.start{w:World}{bi bs window:Nat}{code script:List UInt8}{K0:Nat→Prop}{v:Value}(hs:script.length≤1000000)(hbi:bi<w.heap.size)(hbs:bs<w.heap.size)(hne:bi≠bs)(c1:w.cell? ⟨bi,0,none⟩=some (.int .i64 (0:Nat)))(c2:w.cell? ⟨bs,0,none⟩=some v)(ho:∀j,w.frozen? ⟨bi,j,none⟩=false)(hsc:ScrAt w v script K0)(hK:∀k,K0 k→k<w.heap.size∧k≠bi)(ty:TypeId):
  SpRun w.heap.size bi bs code window script (fun k=>k=w.heap.size∨k=bi) (fun k=>K0 k∨k=bs) ⟨[],0,script⟩ (w.alloc (.cells #[.string (bA' code), .int .i64 window, .func (.func 34) #[] #[.pointer (some ⟨bi,0,none⟩), .pointer (some ⟨bs,0,none⟩)], .slice none 0 0, .int .i64 0] ty))∧Fr No w (w.alloc (.cells #[.string (bA' code), .int .i64 window, .func (.func 34) #[] #[.pointer (some ⟨bi,0,none⟩), .pointer (some ⟨bs,0,none⟩)], .slice none 0 0, .int .i64 0] ty)):=by
 obtain ⟨W,hW⟩:∃W,W=w.alloc (.cells #[.string (bA' code), .int .i64 window, .func (.func 34) #[] #[.pointer (some ⟨bi,0,none⟩), .pointer (some ⟨bs,0,none⟩)], .slice none 0 0, .int .i64 0] ty):=⟨_,rfl⟩
 have f1:Fr No w W:=by rw [hW];exact fr_alloc _ _
 have z1:W.heap.size=w.heap.size+1:=by rw [hW,size_alloc]
 have c:CellsAt W w.heap.size 0 [.string (bA' code), .int .i64 window, .func (.func 34) #[] #[.pointer (some ⟨bi,0,none⟩), .pointer (some ⟨bs,0,none⟩)], .slice none 0 0, .int .i64 0]:=by rw [hW];exact CellsAt.new w _ _
 have op:∀j,W.frozen? ⟨w.heap.size,j,none⟩=false:=fun j=>by rw [hW];exact World.frozen?_alloc_new _ _ _ _
 rw [←hW]
 refine ⟨⟨c 0 _ rfl,c 1 _ rfl,c 2 _ rfl,⟨.slice none 0 0,c 3 _ rfl,World.ownsRow_nil _ 0 _ 1,fun k hk=>by cases hk⟩,c 4 _ rfl,op,fun j=>by rw [cells_frozen f1 hbi id];exact ho j,⟨.inl rfl, .inr rfl,by omega⟩,⟨0,f1.cell c1 id,by simp,Nat.zero_le _⟩,⟨v,f1.cell c2 id,(hsc.fr f1 fun _ _=>id).more fun k hk=> .inl hk⟩, .inr rfl,?_,hs,?_,?_⟩,f1⟩
 ·rintro k (rfl|rfl) (hk|hk)
  ·have:=(hK _ hk).1;omega
  ·omega
  ·exact (hK _ hk).2 rfl
  ·omega
 ·rintro k (hk|rfl)
  ·have:=(hK k hk).1;omega
  ·omega
 ·rintro k (rfl|rfl)<;>omega
theorem spec_any{w0 wo:World}{N bw mb pk:Nat}{ds:List MapD}{RL:RQ}{W:HW}(h:WM w0 N bw mb ds pk RL W wo)(hmk:MemOk W.m)(hq0:∀k,¬RL.q k)(hm:MachAt w0)(code:List UInt8)(hlc:code.length≤1000000)(window:Nat)(hw:window≤16)(script:List UInt8)(hs:script.length≤1000000)(v:Value)(K0:Nat→Prop)(hsc:ScrAt wo v script K0)(hK0:∀k,K0 k→k<wo.heap.size∧¬Zof w0 N RL k)(most:Int)(hmo: -9223372036854775808≤most∧most≤1000)(hkk:∀pc x next,fetchM code pc=some (x,next)→okk x.kind=true):
  Calls prog 8 #[.pointer (some ⟨bw,0,none⟩), .string (bA' code), .int .i64 window,v, .int .i64 most] wo fun e w'=>SpTo w0 wo N bw mb ds pk RL (specM ds code window script most W) e w':=by
 obtain ⟨sa,sc,rfl⟩:=hsc.form
 have HM:=Lib.hid hm
 have HQ0:=Lib.hid hq0
 have HKK:=Lib.hid hkk
 clear hkk
 have HH:=Lib.hid h
 have HSC:=Lib.hid hsc
 have HK0:=Lib.hid hK0
 have HLC:=Lib.hid (And.intro hlc (And.intro hw hs))
 have HBE:Hid (∀W',WM w0 N bw mb ds pk RL W W'→_):=Lib.hid fun W' hW=>begin_any hW
 have HGB:Hid (GoodX (beginM W).1):=Lib.hid (GoodX.exE (ST.ok.at_ (ST.zero_ok.set 4 (by decide)) (by decide)))
 have HMK:Hid (MemOk (beginM W).2.m):=Lib.hid (hmk.shape (mshape_mwrite _ _ _ _))
 have HB:Hid (∀t1 t2,_):=Lib.hid (RB.start wo)
 obtain ⟨m,hmt⟩:∃m,most.toNat=m:=⟨_,rfl⟩
 have HMT:Hid (most.toNat=m∧-9223372036854775808≤most∧most≤1000∧m≤1000):=Lib.hid ⟨hmt,hmo.1,hmo.2,by omega⟩
 obtain ⟨A,hA⟩:∃A,specM ds code window script most W=A:=⟨_,rfl⟩
 have HA:Hid ((erOf (beginM W).1=0∧A=runS ds code window m 0 ⟨(beginM W).2,stOf (beginM W).1, []⟩ ⟨[],0,script⟩)∨(erOf (beginM W).1≠0∧A=(.error (erOf (beginM W).1),(beginM W).2))):=Lib.hid (by
  rw [←hA,←hmt]
  exact specM_cases hw fun e he=>HGB.out.2 e he)
 rw [hA]
 have w1:decide ((window:Int)<0)=false:=by simp
 have w2:decide ((16:Int)<(window:Int))=false:=by simp;omega
 clear h hmk hq0 hm hlc hs hsc hK0 hmo hmt hA
 go_enter func8,ntmps8
 go_upto_region 1 with fail
 refine wp_box (fun W1=>Hid (RB wo 0 0 (.slice none 0 0) 0 W1∧Fr No wo W1)) (by exact Lib.hid (HB.out _ _)) ?_
 clear HB
 intro W1 HL
 have HW1:=Lib.hid (HH.out.to HL.out.2)
 go_upto_region 3 with (go_at_call 13;(with_reducible refine (HW1.out.memory).mono ?_);rintro e3 w3 ⟨rfl,rfl⟩)
 obtain ⟨E,hE⟩:∃E,beginM W=E:=⟨_,rfl⟩
 rw [hE] at HGB HMK HA
 have HBG:=Lib.hid (HBE.out _ HW1.out)
 rw [hE] at HBG
 have HSK:Hid ((stOf E.1).ok):=Lib.hid (by
  cases hq:E.1 with
  |ok s=>exact HGB.out.1 s hq
  |error e=>exact ST.zero_ok)
 obtain ⟨r,V⟩:=E
 simp only at HGB HMK HA HSK
 have HBG2:Hid (Calls prog 14 #[.pointer (some ⟨bw,0,none⟩)] W1 fun e w'=>e= .returned (.tuple #[(stOf r).agg, .int .i64 (erOf r)])∧Hid (WM w0 N bw mb ds pk RL V w')∧Hid (Fr (Zof w0 N RL) W1 w')):=Lib.hid (HBG.out.mono fun e w' hh=>⟨hh.1.trans (congrArg Ending.returned (exV_is r)),hh.2.1,hh.2.2⟩)
 clear HBG HBE hE
 have HSN:Hid (∀(W:World) (t:TypeId),SAt (W.alloc (.cells ST.zero.cells.toArray t)) W.heap.size ST.zero∧Fr No W (W.alloc (.cells ST.zero.cells.toArray t))):=Lib.hid fun W t=>⟨SAt.new W ST.zero_ok t,fr_alloc _ _⟩
 generalize stOf r=s0 at*
 generalize erOf r=e0 at*
 go_upto_region 4 with (first
  |(go_at_call 14;(with_reducible refine HBG2.out.mono ?_);rintro e3 w3 ⟨rfl,hw3,hf3⟩)
  |(refine (HSN.out _ _).1.store HSK.out rfl (.tmp 13) (.tmp 35) rfl rfl rfl ?_;intro W4 h4 hf4))
 have HNO:=Lib.hid HH.out.bound
 have HF3:Hid (Fr No w3 W4):=Lib.hid (((HSN.out w3 68).2.any.trans (hf4.mono fun k _ hk=>by show w3.heap.size≤k;omega):Fr (From w3) w3 W4).ours)
 have HW4:=Lib.hid (hw3.out.to HF3.out)
 have HZ:Hid (Fr (Zof w0 N RL) W1 W4):=Lib.hid (hf3.out.trans HF3.out.any)
 have HRB:Hid (RB wo 0 0 (.slice none 0 0) 0 W4):=Lib.hid (HL.out.1.fr HZ.out (fun hz=>by have:=hz.2.2;have:=HNO.out;omega) (fun hz=>by have:=hz.2.2;have:=HNO.out;omega))
 have HFO:Hid (Fr (fun k=>Zof w0 N RL k∨wo.heap.size≤k) wo W4):=Lib.hid (HL.out.2.any.trans (HZ.out.mono fun _ _ h=> .inl h))
 have HS4:Hid (ScrAt W4 (.slice sa script.length sc) script K0):=Lib.hid (HSC.out.fr HFO.out fun k hk hx=>hx.elim (HK0.out k hk).2 fun h=>by have:=(HK0.out k hk).1;omega)
 have H4:=Lib.hid h4
 clear HL HW1 hw3 hf3 hf4 HF3 HZ HSN HBG2 HH HSC w1 w2 h4
 have HP5:Hid (∀t,PathAt w0 N bw mb ds pk RL W4.heap.size (fun k=>k=W4.heap.size) ⟨V,s0, []⟩ (W4.alloc (.cells (pcells bw s0 (.slice none 0 0)).toArray t))∧Fr No W4 (W4.alloc (.cells (pcells bw s0 (.slice none 0 0)).toArray t))):=Lib.hid fun t=>by
  have f:Fr No W4 (W4.alloc (.cells (pcells bw s0 (.slice none 0 0)).toArray t)):=fr_alloc _ _
  exact ⟨⟨HW4.out.to f,HSK.out,HMK.out,⟨_,CellsAt.new W4 _ _,World.ownsRow_nil _ 0 _ 2,fun k hk=>by cases hk⟩,fun j=>World.frozen?_alloc_new _ _ _ _,rfl,fun k hk=>by rw [hk];exact ⟨HW4.out.fr.size, .inl HW4.out.bound⟩,fun k hk=>absurd hk (HQ0.out k),(fun y hy=>by cases hy),fun k hk=>by rw [hk,size_alloc];omega⟩,f⟩
 go_upto_region 5 with (first
  |(refine H4.out.load rfl (.tmp 13) rfl rfl ?_)
  |(refine wpList_built #[(0, .pointer (some ⟨bw,0,none⟩)),(1, .agg s0.cells.toArray)] ?he (pcells bw s0 (.slice none 0 0)).toArray ?hc ?_))
 case hc=>exact path_built2 bw HSK.out
 refine wp_box (fun W=>Hid (PathAt w0 N bw mb ds pk RL W4.heap.size (fun k=>k=W4.heap.size) ⟨V,s0, []⟩ W∧Fr No W4 W)) (by exact Lib.hid (HP5.out 74)) ?_
 clear HP5 HW4
 intro W5 HP5
 go_upto_region 6 with (go_at_call 15;(with_reducible refine (items_any sa script.length sc W5).mono ?_);rintro e6 w6 ⟨bi,bs,rfl,hi6⟩)
 have HI6:=Lib.hid hi6.out
 clear hi6
 have HSR:Hid (∀ty,_):=Lib.hid (SpRun.start (w:=w6) (bi:=bi) (bs:=bs) (window:=window) (code:=code) (K0:=K0) HLC.out.2.2 (by have:=HI6.out.2.2.2.1;exact World.block_lt_of_cell? w6 _ this) (by have:=HI6.out.2.2.2.2.1;exact World.block_lt_of_cell? w6 _ this) HI6.out.2.2.1 HI6.out.2.2.2.1 HI6.out.2.2.2.2.1 HI6.out.2.2.2.2.2.1 ((HS4.out.fr HP5.out.2 fun _ _=>id).fr HI6.out.2.2.2.2.2.2 fun _ _=>id) (fun k hk=>by
  have h1:=(HK0.out k hk).1
  have h2:=HI6.out.1
  have h3:=HP5.out.2.size
  have h4:=HFO.out.size
  have h5:=HI6.out.2.2.2.2.2.2.size
  exact ⟨by omega,by omega⟩))
 refine wp_box (fun W=>Hid (SpRun w6.heap.size bi bs code window script (fun k=>k=w6.heap.size∨k=bi) (fun k=>K0 k∨k=bs) ⟨[],0,script⟩ W∧Fr No w6 W)) (by exact Lib.hid (HSR.out 79)) ?_
 clear HSR
 intro W7 HR7
 have HR:Hid (RAt w0 wo N bw mb ds pk RL W4.heap.size w6.heap.size bi bs code window script (fun k=>K0 k∨k=bs) m A e0 0 W7):=by
  have g1:=HRB.out.tld.lt
  have g2:=HI6.out.1
  have g3:=HI6.out.2.1
  have g4:=HP5.out.1.lt
  have g5:=HI6.out.2.2.2.2.2.2
  have g6:=g5.size
  have g7:=HFO.out.size
  have g8:=HP5.out.1.wm.fr.size
  have g9:=HP5.out.1.wm.bound
  have gN:=HNO.out
  have glo:=HP5.out.1.wm.lo
  have gbw:=HP5.out.1.wm.bw
  have f7:Fr No W5 W7:=g5.trans HR7.out.2
  refine Lib.hid ⟨_,_,⟨V,s0, []⟩,⟨[],0,script⟩,⟨⟨HR7.out.1,HP5.out.1.no f7,?_,?_,?_⟩,HRB.out.no (HP5.out.2.trans f7),HFO.out.trans (HP5.out.2.trans f7).any,HNO.out,?_,?_⟩,Nat.zero_le _,Nat.zero_le _,Nat.zero_le _,HA.out.imp (fun h=>⟨h.1,Nat.zero_le _,h.2⟩) (fun h=>⟨h.1,Nat.zero_le _,h.2⟩)⟩
  ·rintro k (rfl|rfl) hp<;>omega
  ·rintro k (rfl|rfl)
   ·exact ⟨by omega, .inl (by omega)⟩
   ·exact ⟨by omega, .inl (by omega)⟩
  ·rintro k (hk|rfl)
   ·have:=(HK0.out k hk).1
    exact ⟨by omega,(HK0.out k hk).2⟩
   ·refine ⟨by omega,fun hz=> ?_⟩
    have:=hz.2.2
    omega
  ·rintro k (rfl|rfl)<;>omega
  ·rintro k rfl;omega
 have HKB:Hid (¬(K0 wo.heap.size∨wo.heap.size=bs)∧¬(K0 (wo.heap.size+1)∨wo.heap.size+1=bs)):=by
  have g1:=HRB.out.tld.lt
  have g3:=HI6.out.2.1
  have g4:=HP5.out.1.lt
  exact Lib.hid ⟨fun h=>h.elim (fun h=>by have:=(HK0.out _ h).1;omega) fun h=>by omega,fun h=>h.elim (fun h=>by have:=(HK0.out _ h).1;omega) fun h=>by omega⟩
 clear HRB HFO HS4 H4 HI6 HP5 HR7 HA HMK HGB HK0
 generalize W4.heap.size=bp at*
 generalize w6.heap.size=br at*
 generalize hKK:(fun k=>K0 k∨k=bs)=K at*
 replace HKB:Hid (¬K wo.heap.size∧¬K (wo.heap.size+1)):=by rw [←hKK];exact HKB
 clear hKK
 go_upto_region 7 with fail
 clear HSK HNO
 go_loopw [12,16] (fun s12 s16 wl=>∃(e:Int) (k:Nat),s12= .int .i64 e∧s16= .int .i64 k∧Hid (RAt w0 wo N bw mb ds pk RL bp br bi bs code window script K m A e k wl)) (fun s12 s16 _=>if intOf s12=0 then m+2-(intOf s16).toNat else 0)
 case atStart=>exact ⟨e0,0,rfl,rfl,HR⟩
 case round=>
  obtain ⟨e,k,rfl,rfl,HI⟩:=hrel
  clear HR
  obtain ⟨R,P,q,t,hrs,l1,l2,l3,hA⟩:=HI.out
  have HS:=Lib.hid hrs
  have HLB:=Lib.hid (And.intro l1 (And.intro l2 l3))
  clear HI hrs l1 l2 l3
  rcases hA with ⟨rfl,hk,hA⟩|⟨he,hk,hA⟩
  ·have HA:=Lib.hid hA
   have HK:=Lib.hid hk
   clear hA hk
   have cpc:=HS.out.both.path.pc
   by_cases hp:q.s.pc=10485760
   ·have z0:((q.s.pc:Int)==10485760)=true:=by rw [beq_iff_eq];omega
    have HA2:Hid (A=(.ok (q.s.reg 0,k,t),q.W)):=Lib.hid (HA.out.trans (runS_halt hp))
    clear hp HA HK
    obtain ⟨tv,d1,d2,d3⟩:=HS.out.both.run.row
    have d4:=HS.out.both.run.c4
    have HTO:Hid (tv.oneCell'=true∧CellsAt wr br 3 [tv, .int .i64 t.sq]):=Lib.hid ⟨by obtain ⟨ta,tc,rfl⟩:=ownsRow_form d2;rfl,fun j u hj=>by
     match j,hj with
     |0,hj=>cases hj;exact d1
     |1,hj=>cases hj;exact d4⟩
    have HD:=Lib.hid (And.intro d2 d3)
    clear d1 d2 d3 d4
    go_upto_region 10 with fail
    go_cut [12] from 57 to 68 (fun s12 wx=>s12= .int .i64 0∧Hid (RB wo (q.s.reg 0) k tv t.sq wx∧Fr (fun k=>k=wo.heap.size∨k=wo.heap.size+1) wr wx))
    case first=>
     rename_i J K' hJ hK
     have hrb:¬(br=wo.heap.size∨br=wo.heap.size+1):=by have:=HS.out.rfree _ HS.out.both.run.own.1;omega
     have hpb:¬(bp=wo.heap.size∨bp=wo.heap.size+1):=by have:=HS.out.pfree _ HS.out.both.path.own;omega
     refine wp_region_made [(14, .pointer (some ⟨bp,0,none⟩)),(15, .pointer (some ⟨br,0,none⟩)),(16, .int .i64 k),(10, .pointer (some ⟨wo.heap.size,0,none⟩)),(11, .pointer (some ⟨wo.heap.size+1,0,none⟩))]
      [some (.pointer (some ⟨bp,0,none⟩)),some (.pointer (some ⟨bp,0,none⟩)),some (.pointer (some ⟨bp,1,none⟩)),some (.pointer (some ⟨bp,1,none⟩)),some (.pointer (some ⟨bp,1,none⟩)),some (.int .u64 (q.s.reg 0)),some (.int .i64 k),some (.agg #[.int .u64 (q.s.reg 0), .int .i64 k]),some (.pointer (some ⟨br,0,none⟩)),some (.pointer (some ⟨br,0,none⟩)),some (.pointer (some ⟨br,3,none⟩)),some (.agg #[tv, .int .i64 t.sq]),none,none,some (.int .i64 0)]
      (fun h W'=>∃(a' k':Int) (tv':Value) (sq':Int),RB wo a' k' tv' sq' W'∧Fr (fun k=>k=wo.heap.size∨k=wo.heap.size+1) wr W'∧(h 12≠none→a'=(q.s.reg 0:Int)∧k'=(k:Int))∧(h 13≠none→tv'=tv∧sq'=(t.sq:Int))) (by kernel_rfl) (by kernel_rfl) (by kernel_rfl) (by kernel_rfl) ⟨rfl,rfl,rfl,rfl,rfl,trivial⟩ ⟨0,0, .slice none 0 0,0,HS.out.rb.no ((Fr.refl _ _).drew),(Fr.refl _ _).drew,fun h=>absurd rfl h,fun h=>absurd rfl h⟩ ?_ ?_ ?_
     ·intro i o c ho hc h A' W' hS hpre hb
      obtain ⟨a',k',tv',sq',hR,hF, -⟩:=hS
      match i,ho,hc,hpre with
      |0,ho,hc,hpre=>cases ho;cases hc;exact do_move (base_val hb 14 (by simp))
      |1,ho,hc,hpre=>cases ho;cases hc;exact do_nil (pre_val hpre 0 57 (by kernel_rfl) rfl rfl)
      |2,ho,hc,hpre=>
       cases ho;cases hc
       have e:=pre_val hpre 1 58 (by kernel_rfl) rfl rfl
       show (execOp A'.eval ⟨some 59, .fieldAddr 74 (.tmp 58) 1,_,_,_,_⟩).run prog W'=_
       simp only [execOp,e]
       first|kernel_rfl|simp [go_sem]
      |3,ho,hc,hpre=>
       cases ho;cases hc
       have e:=pre_val hpre 2 59 (by kernel_rfl) rfl rfl
       show (execOp A'.eval ⟨some 60, .fieldAddr 68 (.tmp 59) 0,_,_,_,_⟩).run prog W'=_
       simp only [execOp,e]
       first|kernel_rfl|simp [go_sem]
      |4,ho,hc,hpre=>cases ho;cases hc;exact do_index (pre_val hpre 3 60 (by kernel_rfl) rfl rfl) rfl (by kernel_rfl)
      |5,ho,hc,hpre=>
       cases ho;cases hc
       have c0:W'.cell? ⟨bp,1,none⟩=some (.int .u64 (q.s.reg 0)):=hF.cells HS.out.both.path.cellsS hpb 0 _ (ST.cells_reg (by rw [HS.out.both.path.ok.len];decide))
       exact do_load (pre_val hpre 4 61 (by kernel_rfl) rfl rfl) (by simp [go_sem,c0])
      |6,ho,hc,hpre=>cases ho;cases hc;exact do_move (base_val hb 16 (by simp))
      |7,ho,hc,hpre=>
       cases ho;cases hc
       have e3:A'.eval (.tmp 62)= .int .u64 (q.s.reg 0):=pre_val hpre 5 62 (by kernel_rfl) rfl rfl
       have e4:A'.eval (.tmp 63)= .int .i64 k:=pre_val hpre 6 63 (by kernel_rfl) rfl rfl
       exact do_build (vs:= #[(0, .int .u64 (q.s.reg 0)),(1, .int .i64 k)]) (by simp only [List.map_toArray,List.map_cons,List.map_nil,e3,e4]) (by kernel_rfl)
      |8,ho,hc,hpre=>cases ho;cases hc;exact do_move (base_val hb 15 (by simp))
      |9,ho,hc,hpre=>cases ho;cases hc;exact do_nil (pre_val hpre 8 65 (by kernel_rfl) rfl rfl)
      |10,ho,hc,hpre=>
       cases ho;cases hc
       have e:=pre_val hpre 9 66 (by kernel_rfl) rfl rfl
       show (execOp A'.eval ⟨some 67, .fieldAddr 79 (.tmp 66) 3,_,_,_,_⟩).run prog W'=_
       simp only [execOp,e]
       first|kernel_rfl|simp [go_sem]
      |11,ho,hc,hpre=>cases ho;cases hc;exact do_load (pre_val hpre 10 67 (by kernel_rfl) rfl rfl) (run_loadAt_mid W' br 3 _ [tv, .int .i64 t.sq] _ (hF.cells HTO.out.2 hrb) underlying41 rfl (by kernel_rfl))
      |12,ho,hc,hpre=>cases hc
      |13,ho,hc,hpre=>cases hc
      |14,ho,hc,hpre=>cases ho;cases hc;exact do_assign rfl
      |n+15,ho,hc,hpre=>cases hc
     ·intro i o ho hc h A' W' hdf hi hS hpre hb
      obtain ⟨a',k',tv',sq',hR,hF,h12,h13⟩:=hS
      match i,ho,hc,hi,hpre with
      |12,ho,hc,hi,hpre=>
       cases ho
       have fb:Fr (fun k=>k=wo.heap.size) W' (W'.setCells wo.heap.size 0 [.int .u64 (q.s.reg 0), .int .i64 k]):=(Fr.refl (fun k=>k=wo.heap.size) W').setCells (.inr rfl) 0 _
       refine do_store (base_val hb 10 (by simp)) (pre_val2 hpre 7 64 (by kernel_rfl) rfl rfl) hR.out.there (by kernel_rfl) (by simp [Value.oneCell']) ⟨undef,rfl,_,_,tv',sq',⟨⟨World.rangeAt_setCells_same W' wo.heap.size 0 _ hR.out.there,fun j=>by rw [World.frozen?_setCells];exact hR.out.open_ j⟩,hR.tld.fr fb (by omega)⟩,hF.trans (fb.mono fun k _ hk=> .inl hk),fun _=>⟨rfl,rfl⟩,?_⟩
       rw [setH_ne (by decide)]
       exact h13
      |13,ho,hc,hi,hpre=>
       cases ho
       have fb:Fr (fun k=>k=wo.heap.size+1) W' (W'.setCells (wo.heap.size+1) 0 [tv, .int .i64 t.sq]):=(Fr.refl (fun k=>k=wo.heap.size+1) W').setCells (.inr rfl) 0 _
       have hth:W'.there (wo.heap.size+1) 0 2:=fun j hj=>by
        rw [Nat.zero_add]
        refine ⟨?_,hR.tld.open_ j⟩
        match j,hj with
        |0,_=>rw [hR.tld.c0];rfl
        |1,_=>rw [hR.tld.c1];rfl
       have hcs:=World.rangeAt_setCells_same W' (wo.heap.size+1) 0 [tv, .int .i64 t.sq] hth
       have h1c:(#[tv,Value.int .i64 (t.sq:Int)]).all (·.oneCell')=true:=by
        have h1:=HTO.out.1
        simp only [Array.all_eq_true',List.mem_toArray,List.mem_cons,List.not_mem_nil,or_false]
        rintro u (rfl|rfl)
        ·exact h1
        ·rfl
       refine do_store (base_val hb 11 (by simp)) (pre_val2 hpre 11 68 (by kernel_rfl) rfl rfl) hth (by kernel_rfl) h1c ⟨undef,rfl,a',k',tv,t.sq,⟨hR.out.fr fb (by omega),⟨hcs 0 _ rfl,hcs 1 _ rfl,fun j=>by rw [World.frozen?_setCells];exact hR.tld.open_ j⟩⟩,hF.trans (fb.mono fun k _ hk=> .inr hk),?_,fun _=>⟨rfl,rfl⟩⟩
       rw [setH_ne (by decide)]
       exact h12
      |0,ho,hc,hi,hpre=>cases hc
      |1,ho,hc,hi,hpre=>cases hc
      |2,ho,hc,hi,hpre=>cases hc
      |3,ho,hc,hi,hpre=>cases hc
      |4,ho,hc,hi,hpre=>cases hc
      |5,ho,hc,hi,hpre=>cases hc
      |6,ho,hc,hi,hpre=>cases hc
      |7,ho,hc,hi,hpre=>cases hc
      |8,ho,hc,hi,hpre=>cases hc
      |9,ho,hc,hi,hpre=>cases hc
      |10,ho,hc,hi,hpre=>cases hc
      |11,ho,hc,hi,hpre=>cases hc
      |14,ho,hc,hi,hpre=>cases hc
      |n+15,ho,hc,hi,hpre=>cases ho
     ·intro h V' W' hV hS
      obtain ⟨a',k',tv',sq',hR,hF,h12,h13⟩:=hS
      obtain ⟨rfl,rfl⟩:=h12 (by rw [show h 12=some (V' 12) from hV 12 (by decide)];exact Option.some_ne_none _)
      obtain ⟨rfl,rfl⟩:=h13 (by rw [show h 13=some (V' 13) from hV 13 (by decide)];exact Option.some_ne_none _)
      have e14:V' 14= .int .i64 0:=(Option.some.inj (hV 14 (by decide))).symm
      exact hK _ _ (Met.intro (hJ _ _ ⟨V' 14,V' 0,V' 1,V' 2,V' 3,V' 4,V' 5,V' 6,V' 7,V' 8,V' 9,V' 10,V' 11,⟨e14,Lib.hid ⟨hR,hF⟩⟩,by kernel_rfl⟩))
    case rest=>
     obtain ⟨rfl,HR2⟩:=hcut
     have HS2:=Lib.hid (HS.out.put HR2.out.1 HR2.out.2 HKB.out)
     have HRW:Hid (wc.ownsRow 0 37 1 tv t.tr.length (u64L t.tr)∧∀k,tv.ownBlock=some k→wo.heap.size≤k):=Lib.hid ⟨ownsRow_fr HD.out.1 HR2.out.2 (fun k hk=>by have:=HS.out.rfree _ (HD.out.2 k hk).1;omega),fun k hk=>by have:=HS.out.rfree _ (HD.out.2 k hk).1;omega⟩
     clear HR2 HS HD
     go_wp2_with fail
     exact bodyPost_ret (results_spec results8 _ _ _ _ _ _ tv t.sq HTO.out.1 HS2.out.rb.out HS2.out.rb.tld rfl rfl) rfl ⟨_,_,_,_,0,rfl,by rw [HA2.out];exact HS2.out.end_.1,HS2.out.end_.2,by rw [HA2.out];exact Lib.hid (.inl ⟨_,_,_,rfl,rfl,rfl,rfl,rfl,HRW.out.1,HRW.out.2⟩)⟩
   ·have z0:((q.s.pc:Int)==10485760)=false:=by rw [beq_eq_false_iff_ne];omega
    by_cases hkm:k<m
    ·have z1:decide ((k:Int)≥most)=false:=by have:=HMT.out;simp;omega
     have z2:decide (most≤(k:Int))=false:=by have:=HMT.out;simp;omega
     have HPC:=Lib.hid hp
     obtain ⟨n,hn⟩:∃n,m-k=n+1:=⟨m-k-1,by omega⟩
     rw [hn] at HA
     obtain ⟨f,hf⟩:∃f,fetchM code q.s.pc=f:=⟨_,rfl⟩
     have HFT:Hid (∀W,Fr No wr W→Calls prog 16 #[.string (bA' code), .int .u64 q.s.pc] W fun e w'=>e= .returned (.tuple #[(fetchX f).agg, .int .u64 (fetchN f), .int .i64 (fetchE f)])∧Fr No W w'):=Lib.hid fun W hW=>(fetch_any code HLC.out.1 q.s.pc W (HM.out.fr (HS.out.both.path.no hW).wm.fr)).mono fun e w' hh=>⟨hh.1.trans (congrArg Ending.returned (by rw [hf];exact fetchV_is f)),hh.2⟩
     have HXN:Hid (∀t,XB (wr.alloc (.cells XI.zero.cells.toArray t)) wr.heap.size XI.zero∧Fr No wr (wr.alloc (.cells XI.zero.cells.toArray t))):=Lib.hid fun t=>⟨XB.new wr XI.zero t,fr_alloc _ _⟩
     have HNX:Hid (¬R wr.heap.size∧¬P wr.heap.size∧¬K wr.heap.size∧wo.heap.size+1<wr.heap.size):=Lib.hid ⟨fun hr=>Nat.lt_irrefl _ (HS.out.both.run.rlt _ hr),fun hr=>Nat.lt_irrefl _ (HS.out.both.path.plt _ hr),fun hr=>Nat.lt_irrefl _ (HS.out.both.run.klt _ hr),HS.out.lt⟩
     clear hp
     go_upto_region 14 with fail
     refine wp_box (fun W=>Hid (XB W wr.heap.size XI.zero∧Fr No wr W)) (by exact Lib.hid (HXN.out 48)) ?_
     clear HXN
     intro W13 HX
     have cpc2:=HX.out.2.cell cpc id
     go_upto_region 16 with (first
      |(go_at_call 16;(with_reducible refine (HFT.out _ HX.out.2).mono ?_);rintro e14 w14 ⟨rfl,hf14⟩)
      |(refine (HX.out.1.fr hf14 id).store rfl (.tmp 17) (.tmp 80) rfl rfl rfl ?_;intro W15 h15 hf15))
     have HS15:=Lib.hid ((HS.out.no (HX.out.2.trans hf14)).own HNX.out hf15)
     have HX15:=Lib.hid h15
     clear HS HX HFT h15 hf14 hf15 cpc cpc2
     generalize wr.heap.size=bx at*
     cases f with
     |none=>
      have HA2:Hid (A=(.error 110,q.W)):=Lib.hid (HA.out.trans (runS_none HPC.out hf))
      obtain ⟨l1,l2,l3⟩:=HLB.out
      simp only [fetchE,fetchN,fetchX] at*
      clear HA hf
      have hk9:k≤1000:=by have:=HMT.out;omega
      go_wp2_with fail
      go_roundw
      case rel=>exact ⟨110,k+1,rfl,by go_num,Lib.hid ⟨R,P,q,t,HS15.out,by omega,by omega,by omega, .inr ⟨by decide,by omega,HA2.out⟩⟩⟩
      case measure=>simp [intOf];omega
     |some fq=>
      obtain ⟨x,next⟩:=fq
      have HXO:=Lib.hid (fetch_ok hf)
      have HOK:=Lib.hid (HKK.out _ _ _ hf)
      have HA2:=Lib.hid (HA.out.trans (runS_some HPC.out hf))
      simp only [fetchE,fetchN,fetchX] at*
      clear HA hf
      go_upto_region 17 with fail
      go_cut [91] from 85 to 91 (fun _ wx=>Hid (∃R2,SpRun br bi bs code window script R2 K (tellM x q.s t) wx∧(∀k,R2 k→R k∨W15.heap.size≤k)∧Fr R W15 wx))
      case first=>
       rename_i J K' hJ hK
       have hnb:¬R bp:=fun hr=>HS15.out.both.dis _ hr HS15.out.both.path.own
       refine wp_region_made [(15, .pointer (some ⟨br,0,none⟩)),(17, .pointer (some ⟨bx,0,none⟩)),(14, .pointer (some ⟨bp,0,none⟩))]
        [some (.pointer (some ⟨br,0,none⟩)),some x.agg,some (.pointer (some ⟨bp,0,none⟩)),some (.pointer (some ⟨bp,0,none⟩)),some (.pointer (some ⟨bp,1,none⟩)),some (.agg q.s.cells.toArray),none]
        (fun h W=>TeS W15 br bi bs code window script R K (tellM x q.s t) (h 6) W) (by kernel_rfl) (by kernel_rfl) (by kernel_rfl) (by kernel_rfl) ⟨rfl,rfl,rfl,trivial⟩ ⟨(Fr.refl R W15).drew,fun _=>(Fr.refl No W15).drew,fun hc=>absurd rfl hc⟩ ?_ ?_ ?_
       ·intro i o c ho hc h A' W' hS hpre hb
        match i,ho,hc,hpre with
        |0,ho,hc,hpre=>cases ho;cases hc;exact do_move (base_val hb 15 (by simp))
        |1,ho,hc,hpre=>cases ho;cases hc;exact do_load (base_val hb 17 (by simp)) (run_loadAt_mid W' bx 0 _ _ _ (HX15.out.fr hS.fr HNX.out.1).cells underlying48 rfl (XI.info x))
        |2,ho,hc,hpre=>cases ho;cases hc;exact do_move (base_val hb 14 (by simp))
        |3,ho,hc,hpre=>cases ho;cases hc;exact do_nil (pre_val hpre 2 87 (by kernel_rfl) rfl rfl)
        |4,ho,hc,hpre=>
         cases ho;cases hc
         have e:=pre_val hpre 3 88 (by kernel_rfl) rfl rfl
         show (execOp A'.eval ⟨some 89, .fieldAddr 74 (.tmp 88) 1,_,_,_,_⟩).run prog W'=_
         simp only [execOp,e]
         first|kernel_rfl|simp [go_sem]
        |5,ho,hc,hpre=>cases ho;cases hc;exact do_load (pre_val hpre 4 89 (by kernel_rfl) rfl rfl) (run_loadAt_mid W' bp 1 _ _ _ (hS.fr.cells HS15.out.both.path.cellsS hnb) underlying68 rfl (ST.info HS15.out.both.path.ok))
        |6,ho,hc,hpre=>cases hc
        |n+7,ho,hc,hpre=>cases hc
       ·intro i o ho hc h A' W' hdf hi hS hpre hb
        match i,ho,hc,hi,hpre with
        |6,ho,hc,hi,hpre=>
         cases ho
         have hno:=hS.no hi
         have e1:A'.eval (.tmp 85)= .pointer (some ⟨br,0,none⟩):=pre_val2 hpre 0 85 (by kernel_rfl) rfl rfl
         have e2:A'.eval (.tmp 86)=x.agg:=pre_val2 hpre 1 86 (by kernel_rfl) rfl rfl
         have e3:A'.eval (.tmp 90)= .agg q.s.cells.toArray:=pre_val2 hpre 5 90 (by kernel_rfl) rfl rfl
         have hb4:=HS15.out.both.no hno
         refine do_call (f:=17) (args:= #[.pointer (some ⟨br,0,none⟩),x.agg, .agg q.s.cells.toArray]) ?_ ((tell_any hb4.run HM.out hb4.path.wm.fr (fun k hk=>(hb4.out k hk).1) x q.s HXO.out.1 hb4.path.ok (by have:=HLB.out.2.1;have:=HMT.out;have:=HK.out;omega)).mono fun e w' hh=> ?_)
         ·show (execOp A'.eval ⟨some 91, .call {callee:= .value (.func 17),args:= #[.tmp 85, .tmp 86, .tmp 90],argTypes:=_},_,_,_,_⟩).run prog W'=_
          simp [execOp,resolve,invoke,e1,e2,e3,go_sem]
          exact ⟨by rw [←Array.getD_eq_getD_getElem?];exact e1,by rw [←Array.getD_eq_getD_getElem?];exact e2,by rw [←Array.getD_eq_getD_getElem?];exact e3⟩
         ·obtain ⟨rfl,R2,h1,h2,h3⟩:=hh
          refine ⟨_,rfl,_,rfl,?_⟩
          show TeS W15 br bi bs code window script R K _ (some _) w'
          exact ⟨hno.any.trans h3.out,fun hc=>(by cases hc),fun _=>⟨R2,h1.out,fun k hk=>(h2.out k hk).imp id fun h=>Nat.le_trans hno.size h⟩⟩
        |0,ho,hc,hi,hpre=>cases hc
        |1,ho,hc,hi,hpre=>cases hc
        |2,ho,hc,hi,hpre=>cases hc
        |3,ho,hc,hi,hpre=>cases hc
        |4,ho,hc,hi,hpre=>cases hc
        |5,ho,hc,hi,hpre=>cases hc
        |n+7,ho,hc,hi,hpre=>cases ho
       ·intro h V' W' hV hS
        have e6:h 6=some (V' 6):=hV 6 (by decide)
        obtain ⟨R2,h1,h2⟩:=hS.told (by rw [e6];simp)
        exact hK _ _ (Met.intro (hJ _ _ ⟨V' 0,V' 1,V' 2,V' 3,V' 4,V' 5,V' 6,Lib.hid ⟨R2,h1,h2,hS.fr⟩,by kernel_rfl⟩))
      case rest=>
       obtain ⟨R2,h1,h2,h3⟩:=hcut.out
       have HS16:=Lib.hid (HS15.out.told h1 h2 h3)
       have HX16:Hid (XB wc bx x∧¬R2 bx):=Lib.hid ⟨HX15.out.fr h3 HNX.out.1,fun hr=>(h2 bx hr).elim HNX.out.1 fun h=>by have:=HX15.out.lt;omega⟩
       have HTL:=Lib.hid (tell_len x q.s t)
       clear hcut h1 h2 h3 HS15 HX15
       have HTB:Hid ((tellM x q.s t).tr.length≤700000∧(tellM x q.s t).sq≤800000000∧q.waits.length≤700000):=Lib.hid (by
        obtain ⟨l1,l2,l3⟩:=HLB.out
        obtain ⟨g1,g2⟩:=HTL.out
        have g3:=HMT.out
        have g4:=HK.out
        rw [g2]
        exact ⟨Nat.le_trans g1 (by omega),by omega,by omega⟩)
       have HWL:=Lib.hid (wrong_len (ds:=ds) (code:=code) window q x next (tellM x q.s t))
       have HWR:=Lib.hid (wrong_any HS16.out.both HQ0.out HM.out hw HLC.out.1 HTB.out.2.2 HTB.out.1 HTB.out.2.1 x next HXO.out.1 HXO.out.2.1 HXO.out.2.2 HKK.out)
       go_upto_region 19 with (first
        |(refine HX16.out.1.load rfl (.tmp 17) rfl rfl ?_)
        |(go_at_call 18;(with_reducible refine HWR.out.mono ?_);rintro e17 w17 ⟨rfl,R3,hr17,hs17,hf17⟩))
       have HS17:=Lib.hid (HS16.out.told hr17.out hs17.out hf17.out)
       have HX17:=Lib.hid (HX16.out.1.fr hf17.out HX16.out.2)
       clear HS16 HX16 HWR hr17 hs17 hf17
       have HPS:=Lib.hid (pstep_any HS17.out.both.path HM.out x next HXO.out.1 HXO.out.2.2 (by have:=HTB.out.2.2;omega) HXO.out.2.1 HOK.out)
       obtain ⟨sq,hsq⟩:∃sq,stepP ds q x next=sq:=⟨_,rfl⟩
       have HSW:Hid (sq.2.waits.length≤q.waits.length+1):=Lib.hid (hsq ▸ step_waits)
       rw [hsq] at HPS HA2
       clear hsq
       generalize wrongM ds code window q x next (tellM x q.s t)=t9 at*
       generalize tellM x q.s t=t8 at*
       obtain ⟨se,q2⟩:=sq
       simp only at HSW HPS HA2
       have hk9:k≤1000:=by have:=HMT.out;omega
       go_wp2_with (first
        |(refine HX17.out.load rfl (.tmp 17) rfl rfl ?_)
        |(go_at_call 19;(with_reducible refine HPS.out.mono ?_);rintro e18 w18 ⟨rfl,P2,hp18,hs18,hf18⟩))
       have HS18:=Lib.hid (HS17.out.step hp18.out hs18.out hf18.out)
       clear HS17 hp18 hs18 hf18
       have HRA:Hid (RAt w0 wo N bw mb ds pk RL bp br bi bs code window script K m A se (k+1) w18):=by
        obtain ⟨l1,l2,l3⟩:=HLB.out
        obtain ⟨g1,g2⟩:=HTL.out
        obtain ⟨g3,g4⟩:=HWL.out
        have g5:=HSW.out
        refine Lib.hid ⟨R3,P2,q2,t9,HS18.out,by omega,by omega,by omega,?_⟩
        by_cases he:se=0
        ·refine .inl ⟨he,by omega,?_⟩
         rw [HA2.out,if_neg (fun c=>c he),show m-(k+1)=n by omega]
        ·exact .inr ⟨he,by omega,by rw [HA2.out,if_pos he]⟩
       go_roundw
       case rel=>exact ⟨se,k+1,rfl,by go_num,HRA⟩
       case measure=>
        by_cases he:intOf (Value.int .i64 se)=0
        ·rw [if_pos he];simp [intOf];omega
        ·rw [if_neg he];simp [intOf];omega
    ·have z1:decide ((k:Int)≥most)=true:=by have:=HMT.out;simp;omega
     have z2:decide (most≤(k:Int))=true:=by have:=HMT.out;simp;omega
     have HA2:Hid (A=(.error 100,q.W)):=Lib.hid (by
      rw [HA.out,show m-k=0 by omega]
      exact runS_budget hp)
     clear hp HA hkm HK
     obtain ⟨r0,r1⟩:=HS.out.rb.out.at
     have oo:=HS.out.rb.out.open_
     have d0:=HS.out.rb.tld.c0
     have d1:=HS.out.rb.tld.c1
     have d2:=HS.out.rb.tld.open_
     have HZ:=Lib.hid HS.out.rb.zero
     go_wp2_with fail
     have HS2:=HS.out.put HZ.out.1 HZ.out.2 HKB.out
     exact bodyPost_ret (results_spec results8 _ _ _ _ 0 0 (.slice none 0 0) 0 rfl HS2.rb.out HS2.rb.tld rfl rfl) rfl ⟨0,0, .slice none 0 0,0,100,rfl,by rw [HA2.out];exact HS2.end_.1,HS2.end_.2,by rw [HA2.out];exact Lib.hid (.inr ⟨rfl,rfl,rfl,rfl,rfl,by decide⟩)⟩
  ·have HA:=Lib.hid hA
   have z0:(e==0)=false:=by rw [beq_eq_false_iff_ne];exact he
   have HE:=Lib.hid he
   clear hA hk he
   obtain ⟨r0,r1⟩:=HS.out.rb.out.at
   have oo:=HS.out.rb.out.open_
   have d0:=HS.out.rb.tld.c0
   have d1:=HS.out.rb.tld.c1
   have d2:=HS.out.rb.tld.open_
   have HZ:=Lib.hid HS.out.rb.zero
   go_wp2_with fail
   have HS2:=HS.out.put HZ.out.1 HZ.out.2 HKB.out
   exact bodyPost_ret (results_spec results8 _ _ _ _ 0 0 (.slice none 0 0) 0 rfl HS2.rb.out HS2.rb.tld rfl rfl) rfl ⟨0,0, .slice none 0 0,0,e,rfl,by rw [HA.out];exact HS2.end_.1,HS2.end_.2,by rw [HA.out];exact Lib.hid (.inr ⟨rfl,rfl,rfl,rfl,rfl,HE.out⟩)⟩
def NW(p:Value)(w:World):Prop:=p= .pointer none∨∃b,p= .pointer (some ⟨b,0,none⟩)∧w.cell? ⟨b,0,none⟩=some (.bool false)
theorem NW.fr{p:Value}{w w':World}(h:NW p w)(hf:Fr No w w'):NW p w':=h.imp id fun ⟨b,e,hc⟩=>⟨b,e,hf.cell hc id⟩
theorem nw_none(p:Value)(w:World)(h:NW p w):Calls prog 32 #[p] w fun e w'=>e= .returned (.bool true)∧w=w':=by
 rcases h with rfl|⟨b,rfl,hc⟩
 ·go_enter func32,ntmps32
  go_wp2_with fail
  go_ret
  exact ⟨rfl,rfl⟩
 ·go_enter func32,ntmps32
  go_wp2_with fail
  go_ret
  exact ⟨rfl,rfl⟩
theorem nw_memory(p:Value)(w:World)(h:NW p w):Calls prog 13 #[p] w fun e w'=>e= .returned (.pointer none)∧w=w':=by
 have HN:=Lib.hid (nw_none p w h)
 clear h
 go_enter func13,ntmps13
 go_wp2_with (go_at_call 32;(with_reducible refine (HN.out).mono ?_);rintro e w1 ⟨rfl,rfl⟩)
 go_ret
 exact ⟨rfl,rfl⟩
theorem begin_none(q:Value)(w:World)(h:NW q w):Calls prog 14 #[q] w fun e w'=>e= .returned (exV (.error 1))∧Fr No w w':=by
 have HN:Hid (∀W,Fr No w W→Calls prog 13 #[q] W fun e w'=>e= .returned (.pointer none)∧W=w'):=fun W hW=>nw_memory q W (h.fr hW)
 have HS:Hid (∀t,SAt (w.alloc (.cells ST.zero.cells.toArray t)) w.heap.size ST.zero):=fun t=>SAt.new w ST.zero_ok t
 clear h
 go_enter func14,ntmps14
 go_upto_region 1 with fail
 refine wp_world (fun W1=>Hid (Fr No w W1∧SAt W1 w.heap.size ST.zero)) (by exact ⟨fr_alloc _ _,HS.out _⟩) ?_
 intro W1 HL
 clear HS
 go_wp2_with (first
  |(go_at_call 13;(with_reducible refine (HN.out _ HL.out.1).mono ?_);rintro e w1 ⟨rfl,rfl⟩)
  |(refine HL.out.2.store ST.zero_ok rfl (.tmp 2) (.tmp 8) rfl rfl rfl ?_;intro W9 h9 hf9))
 exact bodyPost_ret (results_st2 results14 _ _ _ ST.zero h9 rfl) rfl ⟨rfl,((HL.out.1.any.trans (hf9.mono fun k _ hk=>by show w.heap.size≤k;omega)):Fr (From w) w W9).ours⟩
structure RnN(w0:World)(s:ST)(a k:Int)(w:World):Prop where
 out:OB w w0.heap.size a k
 st:SAt w (w0.heap.size+1) s
 fr:Fr No w0 w
theorem RnN.start(w:World)(t1 t2:TypeId):RnN w ST.zero 0 0 ((w.alloc (.cells #[.int .u64 0, .int .i64 0] t1)).alloc (.cells ST.zero.cells.toArray t2)):=by
 obtain ⟨W1,hW1⟩:∃W1,W1=w.alloc (.cells #[.int .u64 0, .int .i64 0] t1):=⟨_,rfl⟩
 have z1:W1.heap.size=w.heap.size+1:=by rw [hW1,size_alloc]
 have c1:OB W1 w.heap.size 0 0:=by rw [hW1];exact ⟨CellsAt.new w [.int .u64 0, .int .i64 0] _,fun j=>World.frozen?_alloc_new _ _ _ _⟩
 have f1:Fr No w W1:=by rw [hW1];exact fr_alloc _ _
 rw [←hW1]
 exact ⟨c1.fr (fr_alloc _ _) (T:=No) id,by rw [←z1];exact SAt.new W1 ST.zero_ok _,f1.trans (fr_alloc _ _)⟩
theorem RnN.no{w0 w w':World}{s:ST}{a k:Int}(h:RnN w0 s a k w)(hf:Fr No w w'):RnN w0 s a k w':=⟨h.out.fr hf id,h.st.fr hf id,h.fr.trans hf⟩
theorem RnN.put{w0 w:World}{s:ST}{a k:Int}(h:RnN w0 s a k w)(a' k':Int):RnN w0 s a' k' ((w.setCell ⟨w0.heap.size,0,none⟩ (.int .u64 a')).setCell ⟨w0.heap.size,1,none⟩ (.int .i64 k')):=by
 have hf:Fr (fun k=>k=w0.heap.size) w ((w.setCell ⟨w0.heap.size,0,none⟩ (.int .u64 a')).setCell ⟨w0.heap.size,1,none⟩ (.int .i64 k')):=((Fr.refl (fun k=>k=w0.heap.size) w).setCell (p:=⟨w0.heap.size,0,none⟩) (.inr rfl) _).setCell (p:=⟨w0.heap.size,1,none⟩) (.inr rfl) _
 exact ⟨h.out.put a' k',h.st.fr hf (by omega),((h.fr.any.trans (hf.mono fun k _ hk=>by show w0.heap.size≤k;omega)):Fr (From w0) w0 _).ours⟩
theorem RnN.store{w0 w:World}{s:ST}{a0 k0:Int}(h:RnN w0 s a0 k0 w){t:ST}(ht:t.ok){ops:Array Oper}{rest:List Oper}{op:Oper}{a:Act}{Q:Exit→Act→World→Prop}(hgd:op.guard=none)(px py:Operand)(ho:op.op= .store 68 px py)
  (hx:a.eval px= .pointer (some ⟨w0.heap.size+1,0,none⟩)) (hy:a.eval py= .agg t.cells.toArray) (k:∀W',Hid (RnN w0 t a0 k0 W')→wpList prog ops Q rest (a.put op.dst undef) W'):wpList prog ops Q (op::rest) a w:=
 h.st.store ht hgd px py ho hx hy fun W' h1 h2=>k W' ⟨h.out.fr h2 (by omega),h1,((h.fr.any.trans (h2.mono fun k _ hk=>by show w0.heap.size≤k;omega)):Fr (From w0) w0 W').ours⟩
end Go.Proofs.YtfmcmfiebehhiaaGreatDoor

