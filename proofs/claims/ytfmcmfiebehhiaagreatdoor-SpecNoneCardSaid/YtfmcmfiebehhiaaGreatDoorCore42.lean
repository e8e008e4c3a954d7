/- package spec: Run in a world that is none; firewalllaw14: Same. firewalllaw12.Set: an instruction put to such as may be. (printed by mksp.py) -/
import Derived.Test.YtfmcmfiebehhiaaGreatDoorCore41
import Derived.Test.YtfmcmfiebehhiaaGreatDoorCore31
set_option linter.all false
set_option linter.unusedVariables false
set_option linter.unusedSimpArgs false
set_option maxRecDepth 100000
set_option maxHeartbeats 16000000
namespace Go.Proofs.YtfmcmfiebehhiaaGreatDoor
open Go.Proofs.Tryz
open Go.RowKit
def pc0(p:Option Addr)(s:ST):Array Value:=(.pointer p::(s.cells++ [.slice none 0 0])).toArray
theorem path_built0(p:Option Addr){s:ST}(hs:s.ok):prog.built 74 [(0, .pointer p),(1, .agg s.cells.toArray)]=some (pc0 p s):=by
 unfold pc0
 obtain ⟨v0,v1,v2,v3,v4,v5,v6,v7,v8,v9,v10,v11,v12,v13,v14,v15,v16,v17,v18,v19,v20,e⟩:=list21 s.cells (ST.cells_len hs)
 rw [e]
 kernel_rfl
theorem spec_none(q:Value)(code:List UInt8)(window most:Int)(a:Option Addr)(n c:Nat)(w:World)(h:NW q w):Calls prog 8 #[q, .string (bA' code), .int .i64 window, .slice a n c, .int .i64 most] w fun e w'=>e= .returned (.tuple #[outV 0 0, .agg #[.slice none 0 0, .int .i64 0], .int .i64 1])∧Fr No w w':=by
 have HM:Hid (∀W,Fr No w W→Calls prog 13 #[q] W fun e w'=>e= .returned (.pointer none)∧W=w'):=Lib.hid fun W hW=>nw_memory q W (h.fr hW)
 obtain ⟨s0,hs0⟩:∃s0,s0=ST.zero:=⟨_,rfl⟩
 have HB:Hid (∀W,Fr No w W→Calls prog 14 #[q] W fun e w'=>e= .returned (.tuple #[s0.agg, .int .i64 1])∧Fr No W w'):=Lib.hid fun W hW=>by rw [hs0];exact begin_none q W (h.fr hW)
 have HSK:Hid s0.ok:=by rw [hs0];exact Lib.hid ST.zero_ok
 clear hs0
 have HS:Hid (∀t1 t2,_):=Lib.hid (RB.start w)
 have HSN:Hid (∀(W:World) (t:TypeId),SAt (W.alloc (.cells ST.zero.cells.toArray t)) W.heap.size ST.zero∧Fr No W (W.alloc (.cells ST.zero.cells.toArray t))):=Lib.hid fun W t=>⟨SAt.new W ST.zero_ok t,fr_alloc _ _⟩
 obtain ⟨p,rfl⟩:∃p,q= .pointer p:=by
  rcases h with rfl|⟨b,rfl,_⟩
  ·exact ⟨_,rfl⟩
  ·exact ⟨_,rfl⟩
 clear h
 go_enter func8,ntmps8
 go_upto_region 1 with fail
 refine wp_box (fun W1=>Hid (RB w 0 0 (.slice none 0 0) 0 W1∧Fr No w W1)) (by exact Lib.hid (HS.out _ _)) ?_
 clear HS
 intro W1 HL
 go_upto_region 3 with (go_at_call 13;(with_reducible refine (HM.out _ HL.out.2).mono ?_);rintro e3 w3 ⟨rfl,rfl⟩)
 have HBG2:=Lib.hid (HB.out _ HL.out.2)
 clear HB HM
 go_upto_region 4 with (first
  |(go_at_call 14;(with_reducible refine HBG2.out.mono ?_);rintro e3 w3 ⟨rfl,hf3⟩)
  |(refine (HSN.out _ _).1.store HSK.out rfl (.tmp 13) (.tmp 35) rfl rfl rfl ?_;intro W4 h4 hf4))
 have HF4:Hid (Fr No W1 W4):=Lib.hid (hf3.trans (((HSN.out w3 68).2.any.trans (hf4.mono fun k _ hk=>by show w3.heap.size≤k;omega):Fr (From w3) w3 W4).ours))
 have H4:=Lib.hid h4
 clear hf3 hf4 h4 HBG2 HSN
 go_upto_region 5 with (first
  |(refine H4.out.load rfl (.tmp 13) rfl rfl ?_)
  |(refine wpList_built #[(0, .pointer p),(1, .agg s0.cells.toArray)] ?he (pc0 p s0) ?hc ?_))
 case hc=>exact path_built0 p HSK.out
 refine wp_box (fun W=>Hid (Fr No W4 W)) (by exact Lib.hid (fr_alloc _ _)) ?_
 intro W5 HF5
 go_upto_region 6 with (go_at_call 15;(with_reducible refine (items_any a n c W5).mono ?_);rintro e6 w6 ⟨bi,bs,rfl,hi6⟩)
 have HF6:=Lib.hid hi6.out.2.2.2.2.2.2
 clear hi6
 refine wp_box (fun W=>Hid (Fr No w6 W)) (by exact Lib.hid (fr_alloc _ _)) ?_
 intro W7 HF7
 have HR:Hid (RB w 0 0 (.slice none 0 0) 0 W7∧Fr No w W7):=by
  have f:Fr No W1 W7:=((HF4.out.trans HF5.out).trans HF6.out).trans HF7.out
  exact Lib.hid ⟨HL.out.1.no f,HL.out.2.trans f⟩
 clear HL HF4 H4 HF5 HF6 HF7
 obtain ⟨r0,r1⟩:=HR.out.1.out.at
 have oo:=HR.out.1.out.open_
 have d0:=HR.out.1.tld.c0
 have d1:=HR.out.1.tld.c1
 have d2:=HR.out.1.tld.open_
 have HZ:=Lib.hid HR.out.1.zero
 go_wp2_with fail
 refine wp_loop_rounds 1 ?_
 rw [rounds_succ]
 go_wp2_with fail
 refine bodyPost_ret (results_spec results8 _ _ _ _ 0 0 (.slice none 0 0) 0 rfl HZ.out.1.out HZ.out.1.tld rfl rfl) rfl ⟨rfl,?_⟩
 exact ((HR.out.2.any.trans (HZ.out.2.mono fun k _ hk=>by show w.heap.size≤k;omega)):Fr (From w) w _).ours
def U64At(w:World)(v:Value)(l:List Nat)(K:Nat→Prop):Prop:=
 (l= []∧∃a c,v= .slice a 0 c)∨∃g off cap,v= .slice (some ⟨g,off,none⟩) l.length cap∧CellsAt w g off (u64L l)∧K g
theorem U64At.fr{w w':World}{v:Value}{l:List Nat}{K X:Nat→Prop}(h:U64At w v l K)(hf:Fr X w w')(hK:∀k,K k→¬X k):U64At w' v l K:=by
 rcases h with h|⟨g,off,cap,e,hc,hk⟩
 ·exact .inl h
 ·exact .inr ⟨g,off,cap,e,hf.cells hc (hK g hk),hk⟩
theorem U64At.form{w:World}{v:Value}{l:List Nat}{K:Nat→Prop}(h:U64At w v l K):∃a c,v= .slice a l.length c:=by
 rcases h with ⟨rfl,a,c,rfl⟩|⟨g,off,cap,rfl,_⟩
 ·exact ⟨a,c,rfl⟩
 ·exact ⟨_,cap,rfl⟩
theorem U64At.of_row{w:World}{v:Value}{l:List Nat}(h:w.ownsRow 0 37 1 v l.length (u64L l)):U64At w v l (fun k=>v.ownBlock=some k):=by
 rcases h.2 with ⟨rfl,h0⟩|⟨g,cap,cu,rfl,_,hg,_,_,_,htk⟩
 ·exact .inl ⟨List.eq_nil_of_length_eq_zero h0,none,0,rfl⟩
 ·refine .inr ⟨g,0,cap,rfl,fun j u hj=> ?_,rfl⟩
  rw [Nat.zero_add,cell_of_row w g j cu _ _ hg]
  rw [←htk,List.getElem?_take] at hj
  split at hj
  ·simpa using hj
  ·cases hj
theorem U64At.at{w:World}{a:Option Addr}{n c:Nat}{l:List Nat}{K:Nat→Prop}(h:U64At w (.slice a n c) l K){i:Nat}(hi:i<l.length):∃g off,a=some ⟨g,off,none⟩∧w.cell? ⟨g,off+i,none⟩=some (.int .u64 (l.getD i 0:Int)):=by
 rcases h with ⟨rfl,_⟩|⟨g,off,cap,e,hc,_⟩
 ·exact absurd hi (Nat.not_lt_zero _)
 ·injection e with e1 e2 e3
  refine ⟨g,off,e1,hc i _ ?_⟩
  unfold u64L
  rw [List.getElem?_map,List.getElem?_eq_getElem hi,List.getD_eq_getElem?_getD,List.getElem?_eq_getElem hi]
  rfl
theorem set_any(x:XI)(w:World):Calls prog 52 #[x.agg] w fun e w'=>e= .returned (setM x).agg∧Fr No w w':=by
 obtain ⟨k,a,c,z,wd,sh,d,r,dp,rl,im⟩:=x
 obtain ⟨G,hG⟩:∃G,setM ⟨k,a,c,z,wd,sh,d,r,dp,rl,im⟩=G:=⟨_,rfl⟩
 rw [hG]
 have HG:=Lib.hid hG
 have f1:=and_15 d
 have f2:=and_15 r
 obtain ⟨D,hD⟩:∃D,d%16=D:=⟨_,rfl⟩
 obtain ⟨R,hR⟩:∃R,r%16=R:=⟨_,rfl⟩
 rw [hD] at f1
 rw [hR] at f2
 have HD:=Lib.hid hD
 have HR:=Lib.hid hR
 have HE:Hid (∀(y:XI) t1 t2 t3 n,_):=fun y t1 t2 t3 n=>StX.start w ⟨k,a,c,z,wd,sh,d,r,dp,rl,im⟩ y t1 t2 t3 n
 clear hG hD hR
 simp only [XI.agg]
 go_enter func52,ntmps52
 go_upto_region 1 with fail
 go_quiet (fail)
 go_upto_region 3 with fail
 refine wp_box (fun W1=>Hid (StX w ⟨k,a,c,z,wd,sh,d,r,dp,rl,im⟩ XI.zero ⟨k,0,0,0,wd,false,D,0,0,0,0⟩ W1)) (by exact Lib.hid (HE.out ⟨k,0,0,0,wd,false,D,0,0,0,0⟩ _ _ _ _)) ?_
 intro W1 HL
 clear HE
 obtain ⟨c0,c1,c2,c3,c4,c5,c6,c7,c8,c9,c10⟩:=XI.at HL.out.x.cells
 by_cases n1:k=1
 ·subst n1
  have HQ:Hid (G=⟨1,0,0,0,wd,false,D,R,0,0,0⟩):=by
   rw [←HG.out]
   (try rw [←HD.out])
   (try rw [←HR.out])
   exact Lib.hid rfl
  clear HG HD HR
  obtain ⟨y0,y1,y2,y3,y4,y5,y6,y7,y8,y9,y10⟩:=XI.at HL.out.y.cells
  have oy:=HL.out.y.open_
  have HL2:=Lib.hid (HL.out.put (y':=⟨1,0,0,0,wd,false,D,R,0,0,0⟩) (j:=7) (v:= .int .i64 R) (by decide) rfl)
  go_upto_region 31 with fail
  refine wp_box (fun W3=>Hid (StX w ⟨1,a,c,z,wd,sh,d,r,dp,rl,im⟩ XI.zero ⟨1,0,0,0,wd,false,D,R,0,0,0⟩ W3)) (by exact HL2) ?_
  clear HL2 HL c0 c1 c2 c3 c4 c5 c6 c7 c8 c9 c10 y0 y1 y2 y3 y4 y5 y6 y7 y8 y9 y10 oy
  intro W3 HL
  go_wp2_with (first|(refine HL.out.y.load rfl (.tmp 5) rfl rfl ?_)|(refine HL.out.answer rfl (.tmp 2) (.tmp 105) rfl rfl rfl ?_;intro W9 HL))
  exact bodyPost_ret (results_x1 results52 _ _ _ _ HL.out.res rfl) rfl ⟨by rw [HQ.out];rfl,HL.out.fr⟩
 by_cases n6:k=6
 ·subst n6
  have HQ:Hid (G=⟨6,0,0,0,wd,false,D,R,0,0,0⟩):=by
   rw [←HG.out]
   (try rw [←HD.out])
   (try rw [←HR.out])
   exact Lib.hid rfl
  clear HG HD HR
  obtain ⟨y0,y1,y2,y3,y4,y5,y6,y7,y8,y9,y10⟩:=XI.at HL.out.y.cells
  have oy:=HL.out.y.open_
  have HL2:=Lib.hid (HL.out.put (y':=⟨6,0,0,0,wd,false,D,R,0,0,0⟩) (j:=7) (v:= .int .i64 R) (by decide) rfl)
  go_upto_region 31 with fail
  refine wp_box (fun W3=>Hid (StX w ⟨6,a,c,z,wd,sh,d,r,dp,rl,im⟩ XI.zero ⟨6,0,0,0,wd,false,D,R,0,0,0⟩ W3)) (by exact HL2) ?_
  clear HL2 HL c0 c1 c2 c3 c4 c5 c6 c7 c8 c9 c10 y0 y1 y2 y3 y4 y5 y6 y7 y8 y9 y10 oy
  intro W3 HL
  go_wp2_with (first|(refine HL.out.y.load rfl (.tmp 5) rfl rfl ?_)|(refine HL.out.answer rfl (.tmp 2) (.tmp 105) rfl rfl rfl ?_;intro W9 HL))
  exact bodyPost_ret (results_x1 results52 _ _ _ _ HL.out.res rfl) rfl ⟨by rw [HQ.out];rfl,HL.out.fr⟩
 by_cases n10:k=10
 ·subst n10
  have HQ:Hid (G=⟨10,0,0,0,wd,false,D,R,0,0,0⟩):=by
   rw [←HG.out]
   (try rw [←HD.out])
   (try rw [←HR.out])
   exact Lib.hid rfl
  clear HG HD HR
  obtain ⟨y0,y1,y2,y3,y4,y5,y6,y7,y8,y9,y10⟩:=XI.at HL.out.y.cells
  have oy:=HL.out.y.open_
  have HL2:=Lib.hid (HL.out.put (y':=⟨10,0,0,0,wd,false,D,R,0,0,0⟩) (j:=7) (v:= .int .i64 R) (by decide) rfl)
  go_upto_region 31 with fail
  refine wp_box (fun W3=>Hid (StX w ⟨10,a,c,z,wd,sh,d,r,dp,rl,im⟩ XI.zero ⟨10,0,0,0,wd,false,D,R,0,0,0⟩ W3)) (by exact HL2) ?_
  clear HL2 HL c0 c1 c2 c3 c4 c5 c6 c7 c8 c9 c10 y0 y1 y2 y3 y4 y5 y6 y7 y8 y9 y10 oy
  intro W3 HL
  go_wp2_with (first|(refine HL.out.y.load rfl (.tmp 5) rfl rfl ?_)|(refine HL.out.answer rfl (.tmp 2) (.tmp 105) rfl rfl rfl ?_;intro W9 HL))
  exact bodyPost_ret (results_x1 results52 _ _ _ _ HL.out.res rfl) rfl ⟨by rw [HQ.out];rfl,HL.out.fr⟩
 by_cases n4:k=4
 ·subst n4
  have HQ:Hid (G=⟨4,alusL.getD (a%6).toNat 0,0,0,wd,false,D,R,0,0,0⟩):=by
   rw [←HG.out]
   (try rw [←HD.out])
   (try rw [←HR.out])
   exact Lib.hid rfl
  clear HG HD HR
  obtain ⟨m,hml,hm,e99⟩:=tab_m a 6 (by decide) (by decide)
  have hix:=idx6 m hml
  rw [hm] at HQ
  generalize alusL.getD m 0=V at*
  clear hm hml
  obtain ⟨y0,y1,y2,y3,y4,y5,y6,y7,y8,y9,y10⟩:=XI.at HL.out.y.cells
  have oy:=HL.out.y.open_
  have HL2:=Lib.hid ((HL.out.put (y':=⟨4,0,0,0,wd,false,D,R,0,0,0⟩) (j:=7) (v:= .int .i64 R) (by decide) rfl).put (y':=⟨4,V,0,0,wd,false,D,R,0,0,0⟩) (j:=1) (v:= .int .i64 V) (by decide) rfl)
  go_upto_region 31 with fail
  refine wp_box (fun W3=>Hid (StX w ⟨4,a,c,z,wd,sh,d,r,dp,rl,im⟩ XI.zero ⟨4,V,0,0,wd,false,D,R,0,0,0⟩ W3)) (by exact HL2) ?_
  clear HL2 HL c0 c1 c2 c3 c4 c5 c6 c7 c8 c9 c10 y0 y1 y2 y3 y4 y5 y6 y7 y8 y9 y10 oy
  intro W3 HL
  go_wp2_with (first|(refine HL.out.y.load rfl (.tmp 5) rfl rfl ?_)|(refine HL.out.answer rfl (.tmp 2) (.tmp 105) rfl rfl rfl ?_;intro W9 HL))
  exact bodyPost_ret (results_x1 results52 _ _ _ _ HL.out.res rfl) rfl ⟨by rw [HQ.out];rfl,HL.out.fr⟩
 by_cases n5:k=5
 ·subst n5
  have HQ:Hid (G=⟨5,alusL.getD (a%6).toNat 0,0,0,wd,false,D,0,0,0,sx im 32⟩):=by
   rw [←HG.out]
   (try rw [←HD.out])
   (try rw [←HR.out])
   exact Lib.hid rfl
  clear HG HD HR
  obtain ⟨m,hml,hm,e99⟩:=tab_m a 6 (by decide) (by decide)
  have hix:=idx6 m hml
  rw [hm] at HQ
  generalize alusL.getD m 0=V at*
  clear hm hml
  have w1:=wrap32_sx im
  have w2:=wrap64_sx im
  have w3:IntKind.i32.wrap im=sx im 32:=by rw [←w1,IntKind.wrap_i32];unfold RowKit.wrap32;omega
  have w4:IntKind.i64.wrap (sx im 32)=sx im 32:=IntWalk.i64_in _ (by have:=sx32_in im;omega)
  generalize sx im 32=I at*
  obtain ⟨y0,y1,y2,y3,y4,y5,y6,y7,y8,y9,y10⟩:=XI.at HL.out.y.cells
  have oy:=HL.out.y.open_
  have HL2:=Lib.hid ((HL.out.put (y':=⟨5,V,0,0,wd,false,D,0,0,0,0⟩) (j:=1) (v:= .int .i64 V) (by decide) rfl).put (y':=⟨5,V,0,0,wd,false,D,0,0,0,I⟩) (j:=10) (v:= .int .i64 I) (by decide) rfl)
  go_upto_region 31 with fail
  refine wp_box (fun W3=>Hid (StX w ⟨5,a,c,z,wd,sh,d,r,dp,rl,im⟩ XI.zero ⟨5,V,0,0,wd,false,D,0,0,0,I⟩ W3)) (by exact HL2) ?_
  clear HL2 HL c0 c1 c2 c3 c4 c5 c6 c7 c8 c9 c10 y0 y1 y2 y3 y4 y5 y6 y7 y8 y9 y10 oy
  intro W3 HL
  go_wp2_with (first|(refine HL.out.y.load rfl (.tmp 5) rfl rfl ?_)|(refine HL.out.answer rfl (.tmp 2) (.tmp 105) rfl rfl rfl ?_;intro W9 HL))
  exact bodyPost_ret (results_x1 results52 _ _ _ _ HL.out.res rfl) rfl ⟨by rw [HQ.out];rfl,HL.out.fr⟩
 by_cases n2:k=2
 ·subst n2
  have HQ:Hid (G=⟨2,0,0,0,true,false,D,0,0,0,sx im 32⟩):=by
   rw [←HG.out]
   (try rw [←HD.out])
   (try rw [←HR.out])
   exact Lib.hid rfl
  clear HG HD HR
  have w1:=wrap32_sx im
  have w2:=wrap64_sx im
  have w3:IntKind.i32.wrap im=sx im 32:=by rw [←w1,IntKind.wrap_i32];unfold RowKit.wrap32;omega
  have w4:IntKind.i64.wrap (sx im 32)=sx im 32:=IntWalk.i64_in _ (by have:=sx32_in im;omega)
  generalize sx im 32=I at*
  go_upto_region 16 with fail
  refine wp_then_of ?_
  intro KK hKK
  go_cut [] from 56 to 61 (fun wx=>Hid (StX w ⟨2,a,c,z,wd,sh,d,r,dp,rl,im⟩ XI.zero ⟨2,0,0,0,true,false,D,0,0,0,I⟩ wx))
  case first=>
   rename_i J K' hJ hK
   refine wp_fields [(1,pbj (w.heap.size) 0),(5,pbj (w.heap.size+1+1) 0)] [some (pbj (w.heap.size) 10),some (.int .i64 im),some (.int .i32 I),some (.int .i64 I),some (pbj (w.heap.size+1+1) 4),none,some (pbj (w.heap.size+1+1) 10),none] (w.heap.size+1+1) (XI.cells ⟨2,0,0,0,wd,false,D,0,0,0,0⟩) [(5,4, .bool true),(7,10, .int .i64 I)] (by kernel_rfl) (by kernel_rfl) (by kernel_rfl) (by kernel_rfl) ⟨rfl,rfl,trivial⟩ HL.out.y.cells HL.out.y.open_ (by rfl) (by rfl)
    ⟨oR,oL 10 HL.out.x.cells,oV (.int .i64 im) (c:= .int .i32 I) (fun _=>by simp [go_sem,w3]),oV (.int .i32 I) (c:= .int .i64 I) (fun _=>by simp [go_sem,w4]),oR,oS,oR,oS,trivial⟩ fun V W' hV hS=>
    hK _ _ (Met.intro (hJ _ _ ⟨V 0,V 1,V 2,V 3,V 4,V 6,Lib.hid (StX.region (y':=⟨2,0,0,0,true,false,D,0,0,0,I⟩) HL.out hS),by kernel_rfl⟩))
  case rest=>
  clear c0 c1 c2 c3 c4 c5 c6 c7 c8 c9 c10
  replace HL:=hcut
  clear hcut
  obtain ⟨c0,c1,c2,c3,c4,c5,c6,c7,c8,c9,c10⟩:=XI.at HL.out.x.cells
  rw [hKK]
  clear hKK
  dsimp only
  go_wp2_with (first|(refine HL.out.y.load rfl (.tmp 5) rfl rfl ?_)|(refine HL.out.answer rfl (.tmp 2) (.tmp 105) rfl rfl rfl ?_;intro W9 HL))
  exact bodyPost_ret (results_x1 results52 _ _ _ _ HL.out.res rfl) rfl ⟨by rw [HQ.out];rfl,HL.out.fr⟩
 by_cases n3:k=3
 ·subst n3
  have HQ:Hid (G=⟨3,0,0,0,true,false,D,0,0,0,im⟩):=by
   rw [←HG.out]
   (try rw [←HD.out])
   (try rw [←HR.out])
   exact Lib.hid rfl
  clear HG HD HR
  go_upto_region 18 with fail
  refine wp_then_of ?_
  intro KK hKK
  go_cut [] from 64 to 67 (fun wx=>Hid (StX w ⟨3,a,c,z,wd,sh,d,r,dp,rl,im⟩ XI.zero ⟨3,0,0,0,true,false,D,0,0,0,im⟩ wx))
  case first=>
   rename_i J K' hJ hK
   refine wp_fields [(1,pbj (w.heap.size) 0),(5,pbj (w.heap.size+1+1) 0)] [some (pbj (w.heap.size) 10),some (.int .i64 im),some (pbj (w.heap.size+1+1) 4),none,some (pbj (w.heap.size+1+1) 10),none] (w.heap.size+1+1) (XI.cells ⟨3,0,0,0,wd,false,D,0,0,0,0⟩) [(3,4, .bool true),(5,10, .int .i64 im)] (by kernel_rfl) (by kernel_rfl) (by kernel_rfl) (by kernel_rfl) ⟨rfl,rfl,trivial⟩ HL.out.y.cells HL.out.y.open_ (by rfl) (by rfl)
    ⟨oR,oL 10 HL.out.x.cells,oR,oS,oR,oS,trivial⟩ fun V W' hV hS=>
    hK _ _ (Met.intro (hJ _ _ ⟨V 0,V 1,V 2,V 4,Lib.hid (StX.region (y':=⟨3,0,0,0,true,false,D,0,0,0,im⟩) HL.out hS),by kernel_rfl⟩))
  case rest=>
  clear c0 c1 c2 c3 c4 c5 c6 c7 c8 c9 c10
  replace HL:=hcut
  clear hcut
  obtain ⟨c0,c1,c2,c3,c4,c5,c6,c7,c8,c9,c10⟩:=XI.at HL.out.x.cells
  rw [hKK]
  clear hKK
  dsimp only
  go_wp2_with (first|(refine HL.out.y.load rfl (.tmp 5) rfl rfl ?_)|(refine HL.out.answer rfl (.tmp 2) (.tmp 105) rfl rfl rfl ?_;intro W9 HL))
  exact bodyPost_ret (results_x1 results52 _ _ _ _ HL.out.res rfl) rfl ⟨by rw [HQ.out];rfl,HL.out.fr⟩
 by_cases n7:k=7
 ·subst n7
  have HQ:Hid (G=⟨7,0,0,0,wd,false,D,0,0,0,0⟩):=by
   rw [←HG.out]
   (try rw [←HD.out])
   (try rw [←HR.out])
   exact Lib.hid rfl
  clear HG HD HR
  go_wp2_with (first|(refine HL.out.y.load rfl (.tmp 5) rfl rfl ?_)|(refine HL.out.answer rfl (.tmp 2) (.tmp 105) rfl rfl rfl ?_;intro W9 HL))
  exact bodyPost_ret (results_x1 results52 _ _ _ _ HL.out.res rfl) rfl ⟨by rw [HQ.out];rfl,HL.out.fr⟩
 by_cases n8:k=8
 ·subst n8
  have HQ:Hid (G=⟨8,0,0,0,wd,false,D,0,0,0,0⟩):=by
   rw [←HG.out]
   (try rw [←HD.out])
   (try rw [←HR.out])
   exact Lib.hid rfl
  clear HG HD HR
  go_wp2_with (first|(refine HL.out.y.load rfl (.tmp 5) rfl rfl ?_)|(refine HL.out.answer rfl (.tmp 2) (.tmp 105) rfl rfl rfl ?_;intro W9 HL))
  exact bodyPost_ret (results_x1 results52 _ _ _ _ HL.out.res rfl) rfl ⟨by rw [HQ.out];rfl,HL.out.fr⟩
 by_cases n9:k=9
 ·subst n9
  have HQ:Hid (G=⟨9,0,0,0,wd,false,D,0,0,0,0⟩):=by
   rw [←HG.out]
   (try rw [←HD.out])
   (try rw [←HR.out])
   exact Lib.hid rfl
  clear HG HD HR
  go_wp2_with (first|(refine HL.out.y.load rfl (.tmp 5) rfl rfl ?_)|(refine HL.out.answer rfl (.tmp 2) (.tmp 105) rfl rfl rfl ?_;intro W9 HL))
  exact bodyPost_ret (results_x1 results52 _ _ _ _ HL.out.res rfl) rfl ⟨by rw [HQ.out];rfl,HL.out.fr⟩
 by_cases n11:k=11
 ·subst n11
  have HQ:Hid (G=⟨11,shiftsL.getD (a%3).toNat 0,0,0,wd,false,D,0,0,0,if wd then im%64 else im%32⟩):=by
   rw [←HG.out]
   (try rw [←HD.out])
   (try rw [←HR.out])
   exact Lib.hid rfl
  clear HG HD HR
  obtain ⟨m,hml,hm,e99⟩:=tab_m a 3 (by decide) (by decide)
  have hix:=idx3 m hml
  rw [hm] at HQ
  generalize shiftsL.getD m 0=V at*
  clear hm hml
  have g1:=and_31 im
  have g2:=and_63 im
  generalize im%32=I at*
  generalize im%64=J at*
  cases wd
  ·obtain ⟨y0,y1,y2,y3,y4,y5,y6,y7,y8,y9,y10⟩:=XI.at HL.out.y.cells
   have oy:=HL.out.y.open_
   have HL2:=Lib.hid ((HL.out.put (y':=⟨11,V,0,0,false,false,D,0,0,0,0⟩) (j:=1) (v:= .int .i64 V) (by decide) rfl).put (y':=⟨11,V,0,0,false,false,D,0,0,0,I⟩) (j:=10) (v:= .int .i64 I) (by decide) rfl)
   go_upto_region 31 with fail
   refine wp_box (fun W3=>Hid (StX w ⟨11,a,c,z,false,sh,d,r,dp,rl,im⟩ XI.zero ⟨11,V,0,0,false,false,D,0,0,0,I⟩ W3)) (by exact HL2) ?_
   clear HL2 HL c0 c1 c2 c3 c4 c5 c6 c7 c8 c9 c10 y0 y1 y2 y3 y4 y5 y6 y7 y8 y9 y10 oy
   intro W3 HL
   go_wp2_with (first|(refine HL.out.y.load rfl (.tmp 5) rfl rfl ?_)|(refine HL.out.answer rfl (.tmp 2) (.tmp 105) rfl rfl rfl ?_;intro W9 HL))
   exact bodyPost_ret (results_x1 results52 _ _ _ _ HL.out.res rfl) rfl ⟨by rw [HQ.out];rfl,HL.out.fr⟩
  ·obtain ⟨y0,y1,y2,y3,y4,y5,y6,y7,y8,y9,y10⟩:=XI.at HL.out.y.cells
   have oy:=HL.out.y.open_
   have HL2:=Lib.hid ((HL.out.put (y':=⟨11,V,0,0,true,false,D,0,0,0,0⟩) (j:=1) (v:= .int .i64 V) (by decide) rfl).put (y':=⟨11,V,0,0,true,false,D,0,0,0,I⟩) (j:=10) (v:= .int .i64 I) (by decide) rfl)
   go_upto_region 26 with fail
   refine wp_box (fun W3=>Hid (StX w ⟨11,a,c,z,true,sh,d,r,dp,rl,im⟩ XI.zero ⟨11,V,0,0,true,false,D,0,0,0,I⟩ W3)) (by exact HL2) ?_
   clear HL2 HL c0 c1 c2 c3 c4 c5 c6 c7 c8 c9 c10 y0 y1 y2 y3 y4 y5 y6 y7 y8 y9 y10 oy
   intro W3 HL
   obtain ⟨c0,c1,c2,c3,c4,c5,c6,c7,c8,c9,c10⟩:=XI.at HL.out.x.cells
   obtain ⟨y0,y1,y2,y3,y4,y5,y6,y7,y8,y9,y10⟩:=XI.at HL.out.y.cells
   have oy:=HL.out.y.open_
   have HL2:=Lib.hid (HL.out.put (y':=⟨11,V,0,0,true,false,D,0,0,0,J⟩) (j:=10) (v:= .int .i64 J) (by decide) rfl)
   go_upto_region 31 with fail
   refine wp_box (fun W3=>Hid (StX w ⟨11,a,c,z,true,sh,d,r,dp,rl,im⟩ XI.zero ⟨11,V,0,0,true,false,D,0,0,0,J⟩ W3)) (by exact HL2) ?_
   clear HL2 HL c0 c1 c2 c3 c4 c5 c6 c7 c8 c9 c10 y0 y1 y2 y3 y4 y5 y6 y7 y8 y9 y10 oy
   intro W3 HL
   go_wp2_with (first|(refine HL.out.y.load rfl (.tmp 5) rfl rfl ?_)|(refine HL.out.answer rfl (.tmp 2) (.tmp 105) rfl rfl rfl ?_;intro W9 HL))
   exact bodyPost_ret (results_x1 results52 _ _ _ _ HL.out.res rfl) rfl ⟨by rw [HQ.out];rfl,HL.out.fr⟩
 by_cases n12:k=12
 ·subst n12
  have HQ:Hid (G=⟨12,shiftsL.getD (a%3).toNat 0,0,0,wd,false,D,0,0,0,0⟩):=by
   rw [←HG.out]
   (try rw [←HD.out])
   (try rw [←HR.out])
   exact Lib.hid rfl
  clear HG HD HR
  obtain ⟨m,hml,hm,e99⟩:=tab_m a 3 (by decide) (by decide)
  have hix:=idx3 m hml
  rw [hm] at HQ
  generalize shiftsL.getD m 0=V at*
  clear hm hml
  obtain ⟨y0,y1,y2,y3,y4,y5,y6,y7,y8,y9,y10⟩:=XI.at HL.out.y.cells
  have oy:=HL.out.y.open_
  have HL2:=Lib.hid (HL.out.put (y':=⟨12,V,0,0,wd,false,D,0,0,0,0⟩) (j:=1) (v:= .int .i64 V) (by decide) rfl)
  go_upto_region 31 with fail
  refine wp_box (fun W3=>Hid (StX w ⟨12,a,c,z,wd,sh,d,r,dp,rl,im⟩ XI.zero ⟨12,V,0,0,wd,false,D,0,0,0,0⟩ W3)) (by exact HL2) ?_
  clear HL2 HL c0 c1 c2 c3 c4 c5 c6 c7 c8 c9 c10 y0 y1 y2 y3 y4 y5 y6 y7 y8 y9 y10 oy
  intro W3 HL
  go_wp2_with (first|(refine HL.out.y.load rfl (.tmp 5) rfl rfl ?_)|(refine HL.out.answer rfl (.tmp 2) (.tmp 105) rfl rfl rfl ?_;intro W9 HL))
  exact bodyPost_ret (results_x1 results52 _ _ _ _ HL.out.res rfl) rfl ⟨by rw [HQ.out];rfl,HL.out.fr⟩
 by_cases n21:k=21
 ·subst n21
  have HQ:Hid (G=⟨21,0,0,0,false,false,0,0,0,0,0⟩):=by
   rw [←HG.out]
   (try rw [←HD.out])
   (try rw [←HR.out])
   exact Lib.hid rfl
  clear HG HD HR
  go_wp2_with (first|(refine HL.out.answer (v:=⟨21,0,0,0,false,false,0,0,0,0,0⟩) rfl (.tmp 2) (.tmp 104) rfl rfl rfl ?_;intro W9 HL))
  exact bodyPost_ret (results_x1 results52 _ _ _ _ HL.out.res rfl) rfl ⟨by rw [HQ.out];rfl,HL.out.fr⟩
 have HQ:Hid (G=⟨k,a,c,z,wd,sh,d,r,dp,rl,im⟩):=by
  rw [←HG.out]
  unfold setM
  simp only [n1,n6,n10,n4,n5,n2,n3,n7,n8,n9,n11,n12,n21,if_false,or_self]
  exact Lib.hid trivial
 have e1:(k==1)=false:=by rw [beq_eq_false_iff_ne];exact n1
 have e6:(k==6)=false:=by rw [beq_eq_false_iff_ne];exact n6
 have e10:(k==10)=false:=by rw [beq_eq_false_iff_ne];exact n10
 have e4:(k==4)=false:=by rw [beq_eq_false_iff_ne];exact n4
 have e5:(k==5)=false:=by rw [beq_eq_false_iff_ne];exact n5
 have e2:(k==2)=false:=by rw [beq_eq_false_iff_ne];exact n2
 have e3:(k==3)=false:=by rw [beq_eq_false_iff_ne];exact n3
 have e7:(k==7)=false:=by rw [beq_eq_false_iff_ne];exact n7
 have e8:(k==8)=false:=by rw [beq_eq_false_iff_ne];exact n8
 have e9:(k==9)=false:=by rw [beq_eq_false_iff_ne];exact n9
 have e11:(k==11)=false:=by rw [beq_eq_false_iff_ne];exact n11
 have e12:(k==12)=false:=by rw [beq_eq_false_iff_ne];exact n12
 have e21:(k==21)=false:=by rw [beq_eq_false_iff_ne];exact n21
 clear n1 n6 n10 n4 n5 n2 n3 n7 n8 n9 n11 n12 n21
 go_wp2_with (first|(refine HL.out.x.load rfl (.tmp 1) rfl rfl ?_)|(refine HL.out.answer rfl (.tmp 2) (.tmp 20) rfl rfl rfl ?_;intro W9 HL))
 exact bodyPost_ret (results_x1 results52 _ _ _ _ HL.out.res rfl) rfl ⟨by rw [HQ.out];rfl,HL.out.fr⟩
end Go.Proofs.YtfmcmfiebehhiaaGreatDoor

