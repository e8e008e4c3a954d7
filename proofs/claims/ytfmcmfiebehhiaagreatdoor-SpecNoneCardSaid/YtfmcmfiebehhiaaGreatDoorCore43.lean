/- firewalllaw13.Put: an instruction put to such as may be. (printed by mksp.py) -/
import Derived.Test.YtfmcmfiebehhiaaGreatDoorCore42
set_option linter.all false
set_option linter.unusedVariables false
set_option linter.unusedSimpArgs false
set_option maxRecDepth 100000
set_option maxHeartbeats 16000000
namespace Go.Proofs.YtfmcmfiebehhiaaGreatDoor
open Go.Proofs.Tryz
open Go.RowKit
theorem put_any(x:XI)(w:World):Calls prog 21 #[x.agg] w fun e w'=>e= .returned (putM x).agg∧Fr No w w':=by
 obtain ⟨k,a,c,z,wd,sh,d,r,dp,rl,im⟩:=x
 obtain ⟨G,hG⟩:∃G,putM ⟨k,a,c,z,wd,sh,d,r,dp,rl,im⟩=G:=⟨_,rfl⟩
 rw [hG]
 have HG:=Lib.hid hG
 have f1:=and_15 d
 have f2:=and_15 r
 obtain ⟨D,hD⟩:∃D,d%16=D:=⟨_,rfl⟩
 obtain ⟨R,hR⟩:∃R,r%16=R:=⟨_,rfl⟩
 rw [hD] at f1
 rw [hR] at f2
 have HD:=Lib.hid hD
 have HR:=Lib.hid hR
 have HE:Hid (∀(y:XI) t1 t2 t3,_):=fun y t1 t2 t3=>StX.start0 w ⟨k,a,c,z,wd,sh,d,r,dp,rl,im⟩ y t1 t2 t3
 clear hG hD hR
 simp only [XI.agg]
 go_enter func21,ntmps21
 go_upto_region 2 with fail
 refine wp_box (fun W1=>Hid (StX w ⟨k,a,c,z,wd,sh,d,r,dp,rl,im⟩ XI.zero ⟨k,0,0,0,false,false,0,0,0,0,0⟩ W1)) (by exact Lib.hid (HE.out ⟨k,0,0,0,false,false,0,0,0,0,0⟩ _ _ _)) ?_
 intro W1 HL
 clear HE
 obtain ⟨c0,c1,c2,c3,c4,c5,c6,c7,c8,c9,c10⟩:=XI.at HL.out.x.cells
 by_cases n13:k=13
 ·subst n13
  have HQ:Hid (G=⟨13,0,0,2^(z%4).toNat,decide (z%4=3),false,D,R,dp,0,0⟩):=by
   rw [←HG.out]
   (try rw [←HD.out])
   (try rw [←HR.out])
   exact Lib.hid rfl
  clear HG HD HR
  have g3:=and_3 z
  obtain ⟨m,hm,hm4⟩:∃m:Nat,z%4=(m:Int)∧m<4:=⟨(z%4).toNat,by omega,by omega⟩
  rw [hm,Int.toNat_natCast] at HQ
  rw [hm] at g3
  have HSH:=Lib.hid (shl_m m hm4)
  have q8:=pow8 m hm4
  generalize (2:Int)^m=ZZ at*
  generalize decide ((m:Int)=3)=Wd at*
  clear hm
  go_upto_region 6 with fail
  go_cut [] from 14 to 29 (fun wx=>Hid (StX w ⟨13,a,c,z,wd,sh,d,r,dp,rl,im⟩ XI.zero ⟨13,0,0,ZZ,false,false,D,R,dp,0,0⟩ wx))
  case first=>
   rename_i J K' hJ hK
   refine wp_fields [(1,pbj (w.heap.size) 0),(3,pbj (w.heap.size+1+1) 0)] [some (pbj (w.heap.size) 3),some (.int .i64 z),some (.int .i64 m),some (.int .i64 ZZ),some (pbj (w.heap.size) 6),some (.int .i64 d),some (.int .i64 D),some (pbj (w.heap.size) 7),some (.int .i64 r),some (.int .i64 R),some (pbj (w.heap.size) 8),some (.int .i32 dp),some (pbj (w.heap.size+1+1) 3),none,some (pbj (w.heap.size+1+1) 6),none,some (pbj (w.heap.size+1+1) 7),none,some (pbj (w.heap.size+1+1) 8),none] (w.heap.size+1+1) (XI.cells ⟨13,0,0,0,false,false,0,0,0,0,0⟩) [(13,3, .int .i64 ZZ),(15,6, .int .i64 D),(17,7, .int .i64 R),(19,8, .int .i32 dp)] (by kernel_rfl) (by kernel_rfl) (by kernel_rfl) (by kernel_rfl) ⟨rfl,rfl,trivial⟩ HL.out.y.cells HL.out.y.open_ (by rfl) (by rfl)
    ⟨oR,oL 3 HL.out.x.cells,oI (.int .i64 z) (.int .i64 3) (c:= .int .i64 m) (fun _=>by simp [go_sem,g3]),oI (.int .i64 1) (.int .i64 m) (HSH.out _ _),oR,oL 6 HL.out.x.cells,oI (.int .i64 d) (.int .i64 15) (c:= .int .i64 D) (fun _=>by simp [go_sem,f1]),oR,oL 7 HL.out.x.cells,oI (.int .i64 r) (.int .i64 15) (c:= .int .i64 R) (fun _=>by simp [go_sem,f2]),oR,oL 8 HL.out.x.cells,oR,oS,oR,oS,oR,oS,oR,oS,trivial⟩ fun V W' hV hS=>
    hK _ _ (Met.intro (hJ _ _ ⟨V 0,V 1,V 2,V 3,V 4,V 5,V 6,V 7,V 8,V 9,V 10,V 11,V 12,V 14,V 16,V 18,Lib.hid (StX.region (y':=⟨13,0,0,ZZ,false,false,D,R,dp,0,0⟩) HL.out hS),by kernel_rfl⟩))
  case rest=>
  clear c0 c1 c2 c3 c4 c5 c6 c7 c8 c9 c10
  replace HL:=hcut
  clear hcut
  obtain ⟨c0,c1,c2,c3,c4,c5,c6,c7,c8,c9,c10⟩:=XI.at HL.out.x.cells
  obtain ⟨y0,y1,y2,y3,y4,y5,y6,y7,y8,y9,y10⟩:=XI.at HL.out.y.cells
  have oy:=HL.out.y.open_
  have HL2:=Lib.hid (HL.out.put (y':=⟨13,0,0,ZZ,Wd,false,D,R,dp,0,0⟩) (j:=4) (v:= .bool Wd) (by decide) rfl)
  go_upto_region 21 with fail
  refine wp_box (fun W3=>Hid (StX w ⟨13,a,c,z,wd,sh,d,r,dp,rl,im⟩ XI.zero ⟨13,0,0,ZZ,Wd,false,D,R,dp,0,0⟩ W3)) (by exact HL2) ?_
  clear HL2 HL c0 c1 c2 c3 c4 c5 c6 c7 c8 c9 c10 y0 y1 y2 y3 y4 y5 y6 y7 y8 y9 y10 oy
  intro W3 HL
  go_wp2_with (first|(refine HL.out.y.load rfl (.tmp 3) rfl rfl ?_)|(refine HL.out.answer rfl (.tmp 2) (.tmp 75) rfl rfl rfl ?_;intro W9 HL))
  exact bodyPost_ret (results_x1 results21 _ _ _ _ HL.out.res rfl) rfl ⟨by rw [HQ.out];rfl,HL.out.fr⟩
 by_cases n14:k=14
 ·subst n14
  have HQ:Hid (G=⟨14,0,0,2^(z%4).toNat,decide (z%4=3),false,D,R,dp,0,0⟩):=by
   rw [←HG.out]
   (try rw [←HD.out])
   (try rw [←HR.out])
   exact Lib.hid rfl
  clear HG HD HR
  have g3:=and_3 z
  obtain ⟨m,hm,hm4⟩:∃m:Nat,z%4=(m:Int)∧m<4:=⟨(z%4).toNat,by omega,by omega⟩
  rw [hm,Int.toNat_natCast] at HQ
  rw [hm] at g3
  have HSH:=Lib.hid (shl_m m hm4)
  have q8:=pow8 m hm4
  generalize (2:Int)^m=ZZ at*
  generalize decide ((m:Int)=3)=Wd at*
  clear hm
  go_upto_region 6 with fail
  go_cut [] from 14 to 29 (fun wx=>Hid (StX w ⟨14,a,c,z,wd,sh,d,r,dp,rl,im⟩ XI.zero ⟨14,0,0,ZZ,false,false,D,R,dp,0,0⟩ wx))
  case first=>
   rename_i J K' hJ hK
   refine wp_fields [(1,pbj (w.heap.size) 0),(3,pbj (w.heap.size+1+1) 0)] [some (pbj (w.heap.size) 3),some (.int .i64 z),some (.int .i64 m),some (.int .i64 ZZ),some (pbj (w.heap.size) 6),some (.int .i64 d),some (.int .i64 D),some (pbj (w.heap.size) 7),some (.int .i64 r),some (.int .i64 R),some (pbj (w.heap.size) 8),some (.int .i32 dp),some (pbj (w.heap.size+1+1) 3),none,some (pbj (w.heap.size+1+1) 6),none,some (pbj (w.heap.size+1+1) 7),none,some (pbj (w.heap.size+1+1) 8),none] (w.heap.size+1+1) (XI.cells ⟨14,0,0,0,false,false,0,0,0,0,0⟩) [(13,3, .int .i64 ZZ),(15,6, .int .i64 D),(17,7, .int .i64 R),(19,8, .int .i32 dp)] (by kernel_rfl) (by kernel_rfl) (by kernel_rfl) (by kernel_rfl) ⟨rfl,rfl,trivial⟩ HL.out.y.cells HL.out.y.open_ (by rfl) (by rfl)
    ⟨oR,oL 3 HL.out.x.cells,oI (.int .i64 z) (.int .i64 3) (c:= .int .i64 m) (fun _=>by simp [go_sem,g3]),oI (.int .i64 1) (.int .i64 m) (HSH.out _ _),oR,oL 6 HL.out.x.cells,oI (.int .i64 d) (.int .i64 15) (c:= .int .i64 D) (fun _=>by simp [go_sem,f1]),oR,oL 7 HL.out.x.cells,oI (.int .i64 r) (.int .i64 15) (c:= .int .i64 R) (fun _=>by simp [go_sem,f2]),oR,oL 8 HL.out.x.cells,oR,oS,oR,oS,oR,oS,oR,oS,trivial⟩ fun V W' hV hS=>
    hK _ _ (Met.intro (hJ _ _ ⟨V 0,V 1,V 2,V 3,V 4,V 5,V 6,V 7,V 8,V 9,V 10,V 11,V 12,V 14,V 16,V 18,Lib.hid (StX.region (y':=⟨14,0,0,ZZ,false,false,D,R,dp,0,0⟩) HL.out hS),by kernel_rfl⟩))
  case rest=>
  clear c0 c1 c2 c3 c4 c5 c6 c7 c8 c9 c10
  replace HL:=hcut
  clear hcut
  obtain ⟨c0,c1,c2,c3,c4,c5,c6,c7,c8,c9,c10⟩:=XI.at HL.out.x.cells
  obtain ⟨y0,y1,y2,y3,y4,y5,y6,y7,y8,y9,y10⟩:=XI.at HL.out.y.cells
  have oy:=HL.out.y.open_
  have HL2:=Lib.hid (HL.out.put (y':=⟨14,0,0,ZZ,Wd,false,D,R,dp,0,0⟩) (j:=4) (v:= .bool Wd) (by decide) rfl)
  go_upto_region 21 with fail
  refine wp_box (fun W3=>Hid (StX w ⟨14,a,c,z,wd,sh,d,r,dp,rl,im⟩ XI.zero ⟨14,0,0,ZZ,Wd,false,D,R,dp,0,0⟩ W3)) (by exact HL2) ?_
  clear HL2 HL c0 c1 c2 c3 c4 c5 c6 c7 c8 c9 c10 y0 y1 y2 y3 y4 y5 y6 y7 y8 y9 y10 oy
  intro W3 HL
  go_wp2_with (first|(refine HL.out.y.load rfl (.tmp 3) rfl rfl ?_)|(refine HL.out.answer rfl (.tmp 2) (.tmp 75) rfl rfl rfl ?_;intro W9 HL))
  exact bodyPost_ret (results_x1 results21 _ _ _ _ HL.out.res rfl) rfl ⟨by rw [HQ.out];rfl,HL.out.fr⟩
 by_cases n15:k=15
 ·subst n15
  have HQ:Hid (G=⟨15,0,0,0,false,sh,0,0,0,if sh then sx rl 8 else rl,0⟩):=by
   rw [←HG.out]
   (try rw [←HD.out])
   (try rw [←HR.out])
   exact Lib.hid rfl
  clear HG HD HR
  have w1:=wrap8_sx rl
  have w2:IntKind.i32.wrap (sx rl 8)=sx rl 8:=IntWalk.i32_in _ (by have:=sx8_in rl;omega)
  have w3:RowKit.wrap32 (sx rl 8)=sx rl 8:=IntWalk.wrap32_in _ (by have:=sx8_in rl;omega)
  generalize sx rl 8=I at*
  go_upto_region 10 with fail
  go_cut [] from 37 to 42 (fun wx=>Hid (StX w ⟨15,a,c,z,wd,sh,d,r,dp,rl,im⟩ XI.zero ⟨15,0,0,0,false,sh,0,0,0,rl,0⟩ wx))
  case first=>
   rename_i J K' hJ hK
   refine wp_fields [(1,pbj (w.heap.size) 0),(3,pbj (w.heap.size+1+1) 0)] [some (pbj (w.heap.size) 5),some (.bool sh),some (pbj (w.heap.size) 9),some (.int .i32 rl),some (pbj (w.heap.size+1+1) 5),none,some (pbj (w.heap.size+1+1) 9),none] (w.heap.size+1+1) (XI.cells ⟨15,0,0,0,false,false,0,0,0,0,0⟩) [(5,5, .bool sh),(7,9, .int .i32 rl)] (by kernel_rfl) (by kernel_rfl) (by kernel_rfl) (by kernel_rfl) ⟨rfl,rfl,trivial⟩ HL.out.y.cells HL.out.y.open_ (by rfl) (by rfl)
    ⟨oR,oL 5 HL.out.x.cells,oR,oL 9 HL.out.x.cells,oR,oS,oR,oS,trivial⟩ fun V W' hV hS=>
    hK _ _ (Met.intro (hJ _ _ ⟨V 0,V 1,V 2,V 3,V 4,V 6,Lib.hid (StX.region (y':=⟨15,0,0,0,false,sh,0,0,0,rl,0⟩) HL.out hS),by kernel_rfl⟩))
  case rest=>
  clear c0 c1 c2 c3 c4 c5 c6 c7 c8 c9 c10
  replace HL:=hcut
  clear hcut
  obtain ⟨c0,c1,c2,c3,c4,c5,c6,c7,c8,c9,c10⟩:=XI.at HL.out.x.cells
  cases sh
  ·go_wp2_with (first|(refine HL.out.y.load rfl (.tmp 3) rfl rfl ?_)|(refine HL.out.answer rfl (.tmp 2) (.tmp 75) rfl rfl rfl ?_;intro W9 HL))
   exact bodyPost_ret (results_x1 results21 _ _ _ _ HL.out.res rfl) rfl ⟨by rw [HQ.out];rfl,HL.out.fr⟩
  ·obtain ⟨y0,y1,y2,y3,y4,y5,y6,y7,y8,y9,y10⟩:=XI.at HL.out.y.cells
   have oy:=HL.out.y.open_
   have HL2:=Lib.hid (HL.out.put (y':=⟨15,0,0,0,false,true,0,0,0,I,0⟩) (j:=9) (v:= .int .i32 I) (by decide) rfl)
   go_upto_region 21 with fail
   refine wp_box (fun W3=>Hid (StX w ⟨15,a,c,z,wd,true,d,r,dp,rl,im⟩ XI.zero ⟨15,0,0,0,false,true,0,0,0,I,0⟩ W3)) (by exact HL2) ?_
   clear HL2 HL c0 c1 c2 c3 c4 c5 c6 c7 c8 c9 c10 y0 y1 y2 y3 y4 y5 y6 y7 y8 y9 y10 oy
   intro W3 HL
   go_wp2_with (first|(refine HL.out.y.load rfl (.tmp 3) rfl rfl ?_)|(refine HL.out.answer rfl (.tmp 2) (.tmp 75) rfl rfl rfl ?_;intro W9 HL))
   exact bodyPost_ret (results_x1 results21 _ _ _ _ HL.out.res rfl) rfl ⟨by rw [HQ.out];rfl,HL.out.fr⟩
 by_cases n16:k=16
 ·subst n16
  have HQ:Hid (G=⟨16,0,condsL.getD (c%10).toNat 0,0,false,sh,0,0,0,if sh then sx rl 8 else rl,0⟩):=by
   rw [←HG.out]
   (try rw [←HD.out])
   (try rw [←HR.out])
   exact Lib.hid rfl
  clear HG HD HR
  have w1:=wrap8_sx rl
  have w2:IntKind.i32.wrap (sx rl 8)=sx rl 8:=IntWalk.i32_in _ (by have:=sx8_in rl;omega)
  have w3:RowKit.wrap32 (sx rl 8)=sx rl 8:=IntWalk.wrap32_in _ (by have:=sx8_in rl;omega)
  generalize sx rl 8=I at*
  obtain ⟨m,hml,hm,e99⟩:=tab_m c 10 (by decide) (by decide)
  have hix:=idx10 m hml
  rw [hm] at HQ
  generalize condsL.getD m 0=V at*
  clear hm hml
  go_upto_region 10 with fail
  go_cut [] from 37 to 42 (fun wx=>Hid (StX w ⟨16,a,c,z,wd,sh,d,r,dp,rl,im⟩ XI.zero ⟨16,0,0,0,false,sh,0,0,0,rl,0⟩ wx))
  case first=>
   rename_i J K' hJ hK
   refine wp_fields [(1,pbj (w.heap.size) 0),(3,pbj (w.heap.size+1+1) 0)] [some (pbj (w.heap.size) 5),some (.bool sh),some (pbj (w.heap.size) 9),some (.int .i32 rl),some (pbj (w.heap.size+1+1) 5),none,some (pbj (w.heap.size+1+1) 9),none] (w.heap.size+1+1) (XI.cells ⟨16,0,0,0,false,false,0,0,0,0,0⟩) [(5,5, .bool sh),(7,9, .int .i32 rl)] (by kernel_rfl) (by kernel_rfl) (by kernel_rfl) (by kernel_rfl) ⟨rfl,rfl,trivial⟩ HL.out.y.cells HL.out.y.open_ (by rfl) (by rfl)
    ⟨oR,oL 5 HL.out.x.cells,oR,oL 9 HL.out.x.cells,oR,oS,oR,oS,trivial⟩ fun V W' hV hS=>
    hK _ _ (Met.intro (hJ _ _ ⟨V 0,V 1,V 2,V 3,V 4,V 6,Lib.hid (StX.region (y':=⟨16,0,0,0,false,sh,0,0,0,rl,0⟩) HL.out hS),by kernel_rfl⟩))
  case rest=>
  clear c0 c1 c2 c3 c4 c5 c6 c7 c8 c9 c10
  replace HL:=hcut
  clear hcut
  obtain ⟨c0,c1,c2,c3,c4,c5,c6,c7,c8,c9,c10⟩:=XI.at HL.out.x.cells
  cases sh
  ·obtain ⟨y0,y1,y2,y3,y4,y5,y6,y7,y8,y9,y10⟩:=XI.at HL.out.y.cells
   have oy:=HL.out.y.open_
   have HL2:=Lib.hid (HL.out.put (y':=⟨16,0,V,0,false,false,0,0,0,rl,0⟩) (j:=2) (v:= .int .i64 V) (by decide) rfl)
   go_upto_region 21 with fail
   refine wp_box (fun W3=>Hid (StX w ⟨16,a,c,z,wd,false,d,r,dp,rl,im⟩ XI.zero ⟨16,0,V,0,false,false,0,0,0,rl,0⟩ W3)) (by exact HL2) ?_
   clear HL2 HL c0 c1 c2 c3 c4 c5 c6 c7 c8 c9 c10 y0 y1 y2 y3 y4 y5 y6 y7 y8 y9 y10 oy
   intro W3 HL
   go_wp2_with (first|(refine HL.out.y.load rfl (.tmp 3) rfl rfl ?_)|(refine HL.out.answer rfl (.tmp 2) (.tmp 75) rfl rfl rfl ?_;intro W9 HL))
   exact bodyPost_ret (results_x1 results21 _ _ _ _ HL.out.res rfl) rfl ⟨by rw [HQ.out];rfl,HL.out.fr⟩
  ·obtain ⟨y0,y1,y2,y3,y4,y5,y6,y7,y8,y9,y10⟩:=XI.at HL.out.y.cells
   have oy:=HL.out.y.open_
   have HL2:=Lib.hid ((HL.out.put (y':=⟨16,0,0,0,false,true,0,0,0,I,0⟩) (j:=9) (v:= .int .i32 I) (by decide) rfl).put (y':=⟨16,0,V,0,false,true,0,0,0,I,0⟩) (j:=2) (v:= .int .i64 V) (by decide) rfl)
   go_upto_region 21 with fail
   refine wp_box (fun W3=>Hid (StX w ⟨16,a,c,z,wd,true,d,r,dp,rl,im⟩ XI.zero ⟨16,0,V,0,false,true,0,0,0,I,0⟩ W3)) (by exact HL2) ?_
   clear HL2 HL c0 c1 c2 c3 c4 c5 c6 c7 c8 c9 c10 y0 y1 y2 y3 y4 y5 y6 y7 y8 y9 y10 oy
   intro W3 HL
   go_wp2_with (first|(refine HL.out.y.load rfl (.tmp 3) rfl rfl ?_)|(refine HL.out.answer rfl (.tmp 2) (.tmp 75) rfl rfl rfl ?_;intro W9 HL))
   exact bodyPost_ret (results_x1 results21 _ _ _ _ HL.out.res rfl) rfl ⟨by rw [HQ.out];rfl,HL.out.fr⟩
 by_cases n20:k=20
 ·subst n20
  have HQ:Hid (G=⟨20,0,0,0,false,false,0,0,0,rl,0⟩):=by
   rw [←HG.out]
   (try rw [←HD.out])
   (try rw [←HR.out])
   exact Lib.hid rfl
  clear HG HD HR
  obtain ⟨y0,y1,y2,y3,y4,y5,y6,y7,y8,y9,y10⟩:=XI.at HL.out.y.cells
  have oy:=HL.out.y.open_
  have HL2:=Lib.hid (HL.out.put (y':=⟨20,0,0,0,false,false,0,0,0,rl,0⟩) (j:=9) (v:= .int .i32 rl) (by decide) rfl)
  go_upto_region 21 with fail
  refine wp_box (fun W3=>Hid (StX w ⟨20,a,c,z,wd,sh,d,r,dp,rl,im⟩ XI.zero ⟨20,0,0,0,false,false,0,0,0,rl,0⟩ W3)) (by exact HL2) ?_
  clear HL2 HL c0 c1 c2 c3 c4 c5 c6 c7 c8 c9 c10 y0 y1 y2 y3 y4 y5 y6 y7 y8 y9 y10 oy
  intro W3 HL
  go_wp2_with (first|(refine HL.out.y.load rfl (.tmp 3) rfl rfl ?_)|(refine HL.out.answer rfl (.tmp 2) (.tmp 75) rfl rfl rfl ?_;intro W9 HL))
  exact bodyPost_ret (results_x1 results21 _ _ _ _ HL.out.res rfl) rfl ⟨by rw [HQ.out];rfl,HL.out.fr⟩
 by_cases n17:k=17
 ·subst n17
  have HQ:Hid (G=⟨17,0,0,0,false,false,D,0,0,0,0⟩):=by
   rw [←HG.out]
   (try rw [←HD.out])
   (try rw [←HR.out])
   exact Lib.hid rfl
  clear HG HD HR
  obtain ⟨y0,y1,y2,y3,y4,y5,y6,y7,y8,y9,y10⟩:=XI.at HL.out.y.cells
  have oy:=HL.out.y.open_
  have HL2:=Lib.hid (HL.out.put (y':=⟨17,0,0,0,false,false,D,0,0,0,0⟩) (j:=6) (v:= .int .i64 D) (by decide) rfl)
  go_upto_region 21 with fail
  refine wp_box (fun W3=>Hid (StX w ⟨17,a,c,z,wd,sh,d,r,dp,rl,im⟩ XI.zero ⟨17,0,0,0,false,false,D,0,0,0,0⟩ W3)) (by exact HL2) ?_
  clear HL2 HL c0 c1 c2 c3 c4 c5 c6 c7 c8 c9 c10 y0 y1 y2 y3 y4 y5 y6 y7 y8 y9 y10 oy
  intro W3 HL
  go_wp2_with (first|(refine HL.out.y.load rfl (.tmp 3) rfl rfl ?_)|(refine HL.out.answer rfl (.tmp 2) (.tmp 75) rfl rfl rfl ?_;intro W9 HL))
  exact bodyPost_ret (results_x1 results21 _ _ _ _ HL.out.res rfl) rfl ⟨by rw [HQ.out];rfl,HL.out.fr⟩
 by_cases n18:k=18
 ·subst n18
  have HQ:Hid (G=⟨18,0,0,0,false,false,D,0,0,0,0⟩):=by
   rw [←HG.out]
   (try rw [←HD.out])
   (try rw [←HR.out])
   exact Lib.hid rfl
  clear HG HD HR
  obtain ⟨y0,y1,y2,y3,y4,y5,y6,y7,y8,y9,y10⟩:=XI.at HL.out.y.cells
  have oy:=HL.out.y.open_
  have HL2:=Lib.hid (HL.out.put (y':=⟨18,0,0,0,false,false,D,0,0,0,0⟩) (j:=6) (v:= .int .i64 D) (by decide) rfl)
  go_upto_region 21 with fail
  refine wp_box (fun W3=>Hid (StX w ⟨18,a,c,z,wd,sh,d,r,dp,rl,im⟩ XI.zero ⟨18,0,0,0,false,false,D,0,0,0,0⟩ W3)) (by exact HL2) ?_
  clear HL2 HL c0 c1 c2 c3 c4 c5 c6 c7 c8 c9 c10 y0 y1 y2 y3 y4 y5 y6 y7 y8 y9 y10 oy
  intro W3 HL
  go_wp2_with (first|(refine HL.out.y.load rfl (.tmp 3) rfl rfl ?_)|(refine HL.out.answer rfl (.tmp 2) (.tmp 75) rfl rfl rfl ?_;intro W9 HL))
  exact bodyPost_ret (results_x1 results21 _ _ _ _ HL.out.res rfl) rfl ⟨by rw [HQ.out];rfl,HL.out.fr⟩
 by_cases n19:k=19
 ·subst n19
  have HQ:Hid (G=⟨19,0,0,0,false,false,0,0,0,0,0⟩):=by
   rw [←HG.out]
   (try rw [←HD.out])
   (try rw [←HR.out])
   exact Lib.hid rfl
  clear HG HD HR
  go_wp2_with (first|(refine HL.out.y.load rfl (.tmp 3) rfl rfl ?_)|(refine HL.out.answer rfl (.tmp 2) (.tmp 75) rfl rfl rfl ?_;intro W9 HL))
  exact bodyPost_ret (results_x1 results21 _ _ _ _ HL.out.res rfl) rfl ⟨by rw [HQ.out];rfl,HL.out.fr⟩
 have HQ:Hid (G=setM ⟨k,a,c,z,wd,sh,d,r,dp,rl,im⟩):=by
  rw [←HG.out]
  unfold putM
  simp only [n13,n14,n15,n16,n20,n17,n18,n19,if_false,or_self]
  exact Lib.hid trivial
 have e13:(k==13)=false:=by rw [beq_eq_false_iff_ne];exact n13
 have e14:(k==14)=false:=by rw [beq_eq_false_iff_ne];exact n14
 have e15:(k==15)=false:=by rw [beq_eq_false_iff_ne];exact n15
 have e16:(k==16)=false:=by rw [beq_eq_false_iff_ne];exact n16
 have e20:(k==20)=false:=by rw [beq_eq_false_iff_ne];exact n20
 have e17:(k==17)=false:=by rw [beq_eq_false_iff_ne];exact n17
 have e18:(k==18)=false:=by rw [beq_eq_false_iff_ne];exact n18
 have e19:(k==19)=false:=by rw [beq_eq_false_iff_ne];exact n19
 clear n13 n14 n15 n16 n20 n17 n18 n19
 have HS:Hid (∀W,Calls prog 52 #[(XI.mk k a c z wd sh d r dp rl im).agg] W fun e w'=>e= .returned (setM ⟨k,a,c,z,wd,sh,d,r,dp,rl,im⟩).agg∧Fr No W w'):=fun W=>set_any _ W
 obtain ⟨G',hG⟩:∃G',setM ⟨k,a,c,z,wd,sh,d,r,dp,rl,im⟩=G':=⟨_,rfl⟩
 rw [hG] at HS HQ
 clear hG
 simp only [XI.agg] at HS
 go_wp2_with (first|(go_at_call 52;(with_reducible refine (HS.out _).mono ?_);rintro e w9 ⟨rfl,hf9⟩;replace HL:=Lib.hid (HL.out.no hf9);clear hf9)|(refine HL.out.answer (v:=G') rfl (.tmp 2) (.tmp 10) rfl rfl rfl ?_;intro W9 HL))
 exact bodyPost_ret (results_x1 results21 _ _ _ _ HL.out.res rfl) rfl ⟨by rw [HQ.out];rfl,HL.out.fr⟩
end Go.Proofs.YtfmcmfiebehhiaaGreatDoor

