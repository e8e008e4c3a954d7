/- firewallref11.Valid of any instruction. (printed by mkv2.py) -/
import Derived.Test.YtfmcmfiebehhiaaGreatDoorCore31
import Derived.Test.YtfmcmfiebehhiaaGreatDoorCore28
import Derived.Deep.CutRange
import Derived.Deep.CutBlock
set_option linter.all false
set_option linter.unusedVariables false
set_option linter.unusedSimpArgs false
set_option maxRecDepth 100000
set_option maxHeartbeats 40000000
namespace Go.Proofs.YtfmcmfiebehhiaaGreatDoor
open Go.Proofs.Tryz
open Go.RowKit
abbrev ptr(b j:Nat):Value:= .pointer (some ⟨b,j,none⟩)
structure RVX(w0:World)(x y:XI)(w:World):Prop where
 fr:Fr No w0 w
 x:XB w w0.heap.size x
 y:XB w (w0.heap.size+1) y
theorem RVX.start(w:World)(x y:XI)(t1 t2):RVX w x y ((w.alloc (.cells x.cells.toArray t1)).alloc (.cells y.cells.toArray t2)):=by
 obtain ⟨W1,hW1⟩:∃W1,W1=w.alloc (.cells x.cells.toArray t1):=⟨_,rfl⟩
 have z1:W1.heap.size=w.heap.size+1:=by rw [hW1,size_alloc]
 have c1:XB W1 w.heap.size x:=by rw [hW1];exact XB.new w _ _
 have f1:Fr No w W1:=by rw [hW1];exact fr_alloc _ _
 rw [←hW1]
 exact ⟨f1.trans (fr_alloc _ _),c1.fr (fr_alloc _ _) (T:=No) id,by rw [←z1];exact XB.new _ _ _⟩
theorem RVX.no{w0 w w' x y}(h:RVX w0 x y w)(hf:Fr No w w'):RVX w0 x y w':=⟨h.fr.trans hf,h.x.fr hf id,h.y.fr hf id⟩
theorem RVX.region{w0 w W:World}{x y y':XI}(h:RVX w0 x y w)(hp:PutS w (w0.heap.size+1) y'.cells W):RVX w0 x y' W:=
 ⟨(h.fr.any.trans (hp.fr.mono fun k _ hk=>by show w0.heap.size≤k;omega):Fr (From w0) w0 W).ours,h.x.fr hp.fr (by omega),hp.cells,hp.open_⟩
theorem RVX.put{w0 w:World}{x y y':XI}(h:RVX w0 x y w){j}(hj:j<11){v}(e:y.cells.set j v=y'.cells):RVX w0 x y' (w.setCell ⟨w0.heap.size+1,j,none⟩ v):=by
 have hf:Fr (fun k=>k=w0.heap.size+1) w (w.setCell ⟨w0.heap.size+1,j,none⟩ v):=(Fr.refl (fun k=>k=w0.heap.size+1) w).setCell (p:=⟨w0.heap.size+1,j,none⟩) (.inr rfl) _
 exact ⟨(h.fr.any.trans (hf.mono fun k _ hk=>by show w0.heap.size≤k;omega):Fr (From w0) w0 _).ours,h.x.fr hf (by omega),by rw [←e];exact h.y.cells.set1 (by rw [XI.cells_len];exact hj) v,fun j=>by rw [World.frozen?_setCell];exact h.y.open_ j⟩
theorem or21{k:Int}{G:Prop}(h:1≤k∧k<22)(h1:k=1→G)(h2:k=2→G)(h3:k=3→G)(h4:k=4→G)(h5:k=5→G)(h6:k=6→G)(h7:k=7→G)(h8:k=8→G)(h9:k=9→G)(h10:k=10→G)(h11:k=11→G)(h12:k=12→G)(h13:k=13→G)(h14:k=14→G)(h15:k=15→G)(h16:k=16→G)(h17:k=17→G)(h18:k=18→G)(h19:k=19→G)(h20:k=20→G)(h21:k=21→G):G:=by
 obtain e|e|e|e|e|e|e|e|e|e|e|e|e|e|e|e|e|e|e|e|e:k=1∨k=2∨k=3∨k=4∨k=5∨k=6∨k=7∨k=8∨k=9∨k=10∨k=11∨k=12∨k=13∨k=14∨k=15∨k=16∨k=17∨k=18∨k=19∨k=20∨k=21:=by omega
 ·exact h1 e
 ·exact h2 e
 ·exact h3 e
 ·exact h4 e
 ·exact h5 e
 ·exact h6 e
 ·exact h7 e
 ·exact h8 e
 ·exact h9 e
 ·exact h10 e
 ·exact h11 e
 ·exact h12 e
 ·exact h13 e
 ·exact h14 e
 ·exact h15 e
 ·exact h16 e
 ·exact h17 e
 ·exact h18 e
 ·exact h19 e
 ·exact h20 e
 ·exact h21 e
theorem RVX.eqX{w0 w}{x y:XI}(_:RVX w0 x y w):∃eb,decide (x=y)=eb∧∀W,(binOp .eql 48 x.agg y.agg).run prog W= .ok (.bool eb) W:=⟨_,rfl,fun W=>eq_X x y W⟩
theorem rvalid_any(x:XI)(w:World):Calls prog 45 #[x.agg] w fun e w'=>e= .returned (.bool (validM x))∧Fr No w w':=by
 have HE:Hid (∀(y:XI) t1 t2,_):=fun y t1 t2=>RVX.start w x y t1 t2
 obtain ⟨k,a,c,z,wd,sh,d,r,dp,rl,im⟩:=x
 have HA:Hid (∀n W,Calls prog 78 #[.int .i64 n] W fun e w'=>e= .returned (.bool (oneM n [0,1,4,5,6,7]))∧Fr No W w'):=fun n W=>ralu_any n W
 have HS:Hid (∀n W,Calls prog 80 #[.int .i64 n] W fun e w'=>e= .returned (.bool (oneM n [4,5,7]))∧Fr No W w'):=fun n W=>rshift_any n W
 have HC:Hid (∀n W,Calls prog 82 #[.int .i64 n] W fun e w'=>e= .returned (.bool (oneM n condsL))∧Fr No W w'):=fun n W=>rcond_any n W
 have HO:Hid (∀(n:Int) (W:World),Calls prog 81 #[.int .i64 n, .slice (some ⟨W.heap.size,0,none⟩) 4 4] (W.alloc (.cells #[.int .i64 1, .int .i64 2, .int .i64 4, .int .i64 8] 3)) fun e w'=>e= .returned (.bool (oneM n [1,2,4,8]))∧Fr No W w'):=fun n W=>(rone_any [1,2,4,8] W.heap.size 0 4 4 n _ (CellsAt.new W [.int .i64 1, .int .i64 2, .int .i64 4, .int .i64 8] _) rfl (by decide)).mono fun _ _ h=>⟨h.1,(fr_alloc _ _).trans h.2⟩
 have HWd:Hid (∀n W,Calls prog 79 #[.int .i64 n] W fun e w'=>e= .returned (.bool (wordB n))∧W=w'):=fun n W=>rword_any n W
 have HR:Hid (∀n W,Calls prog 83 #[.int .i64 n] W fun e w'=>e= .returned (.bool (regB n))∧W=w'):=fun n W=>rreg_any n W
 simp only [XI.agg]
 go_enter func45,ntmps45
 go_upto_region 3 with fail
 refine wp_world (fun W1=>Hid (RVX w ⟨k,a,c,z,wd,sh,d,r,dp,rl,im⟩ ⟨k,0,0,0,false,false,0,0,0,0,0⟩ W1)) (by exact Lib.hid (HE.out ⟨k,0,0,0,false,false,0,0,0,0,0⟩ _ _)) ?_
 intro W1 HL
 clear HE
 obtain ⟨c0,c1,c2,c3,c4,c5,c6,c7,c8,c9,c10⟩:=XI.at HL.out.x.cells
 by_cases h:k<1∨22≤k
 ·have HV:=Lib.hid (valid_else k a c z wd sh d r dp rl im h)
  have e1:(k==1)=false:=by rw [beq_eq_false_iff_ne];omega
  have e2:(k==2)=false:=by rw [beq_eq_false_iff_ne];omega
  have e3:(k==3)=false:=by rw [beq_eq_false_iff_ne];omega
  have e4:(k==4)=false:=by rw [beq_eq_false_iff_ne];omega
  have e5:(k==5)=false:=by rw [beq_eq_false_iff_ne];omega
  have e6:(k==6)=false:=by rw [beq_eq_false_iff_ne];omega
  have e7:(k==7)=false:=by rw [beq_eq_false_iff_ne];omega
  have e8:(k==8)=false:=by rw [beq_eq_false_iff_ne];omega
  have e9:(k==9)=false:=by rw [beq_eq_false_iff_ne];omega
  have e10:(k==10)=false:=by rw [beq_eq_false_iff_ne];omega
  have e11:(k==11)=false:=by rw [beq_eq_false_iff_ne];omega
  have e12:(k==12)=false:=by rw [beq_eq_false_iff_ne];omega
  have e13:(k==13)=false:=by rw [beq_eq_false_iff_ne];omega
  have e14:(k==14)=false:=by rw [beq_eq_false_iff_ne];omega
  have e15:(k==15)=false:=by rw [beq_eq_false_iff_ne];omega
  have e16:(k==16)=false:=by rw [beq_eq_false_iff_ne];omega
  have e17:(k==17)=false:=by rw [beq_eq_false_iff_ne];omega
  have e18:(k==18)=false:=by rw [beq_eq_false_iff_ne];omega
  have e19:(k==19)=false:=by rw [beq_eq_false_iff_ne];omega
  have e20:(k==20)=false:=by rw [beq_eq_false_iff_ne];omega
  have e21:(k==21)=false:=by rw [beq_eq_false_iff_ne];omega
  clear h
  go_wp2_with fail
  go_ret
  exact ⟨by rw [HV.out];rfl,HL.out.fr⟩
 refine or21 (k:=k) (by omega) ?k1 ?k2 ?k3 ?k4 ?k5 ?k6 ?k7 ?k8 ?k9 ?k10 ?k11 ?k12 ?k13 ?k14 ?k15 ?k16 ?k17 ?k18 ?k19 ?k20 ?k21
 case' k1=>
  rintro rfl
  have HV:=Lib.hid (valid_1 a c z wd sh d r dp rl im)
  go_upto_region 8 with fail
  refine wp_then_of ?_
  intro KK hKK
  go_cut [] from 14 to 22 (fun wx=>Hid (RVX w ⟨1,a,c,z,wd,sh,d,r,dp,rl,im⟩ ⟨1,0,0,0,wd,false,d,r,0,0,0⟩ wx))
  case first=>
   rename_i J K' hJ hK
   refine wp_fields [(1,ptr (w.heap.size) 0),(3,ptr (w.heap.size+1) 0)] [some (ptr (w.heap.size) 4),some (.bool wd),some (ptr (w.heap.size) 6),some (.int .i64 d),some (ptr (w.heap.size) 7),some (.int .i64 r),some (ptr (w.heap.size+1) 4),none,some (ptr (w.heap.size+1) 6),none,some (ptr (w.heap.size+1) 7),none] (w.heap.size+1) (XI.cells ⟨1,0,0,0,false,false,0,0,0,0,0⟩) [(7,4, .bool wd),(9,6, .int .i64 d),(11,7, .int .i64 r)] (by kernel_rfl) (by kernel_rfl) (by kernel_rfl) (by kernel_rfl) ⟨rfl,rfl,trivial⟩ HL.out.y.cells HL.out.y.open_ (by rfl) (by rfl)
    ⟨oR,oL 4 HL.out.x.cells,oR,oL 6 HL.out.x.cells,oR,oL 7 HL.out.x.cells,oR,oS,oR,oS,oR,oS,trivial⟩ fun V W' hV hS=>
    hK _ _ (Met.intro (hJ _ _ ⟨V 0,V 1,V 2,V 3,V 4,V 5,V 6,V 8,V 10,Lib.hid (RVX.region (y':=⟨1,0,0,0,wd,false,d,r,0,0,0⟩) HL.out hS),by kernel_rfl⟩))
  case' rest=>
  replace HL:=hcut
  clear hcut c0 c1 c2 c3 c4 c5 c6 c7 c8 c9 c10
  obtain ⟨c0,c1,c2,c3,c4,c5,c6,c7,c8,c9,c10⟩:=XI.at HL.out.x.cells
  rw [hKK]
  clear hKK
  dsimp only
  go_upto_region 48 with fail
 case' k2=>
  rintro rfl
  have HV:=Lib.hid (valid_2 a c z wd sh d r dp rl im)
  obtain ⟨ow,how⟩:∃ow,wordB im=ow:=⟨_,rfl⟩
  rw [how] at HV
  have HWd1:=HWd.out im
  rw [how] at HWd1
  have HWd1:=Lib.hid HWd1
  clear how
  go_upto_region 16 with fail
  go_cut [] from 64 to 70 (fun wx=>Hid (RVX w ⟨2,a,c,z,wd,sh,d,r,dp,rl,im⟩ ⟨2,0,0,0,true,false,d,0,0,0,im⟩ wx))
  case first=>
   rename_i J K' hJ hK
   refine wp_fields [(1,ptr (w.heap.size) 0),(3,ptr (w.heap.size+1) 0)] [some (ptr (w.heap.size) 6),some (.int .i64 d),some (ptr (w.heap.size) 10),some (.int .i64 im),some (ptr (w.heap.size+1) 4),none,some (ptr (w.heap.size+1) 6),none,some (ptr (w.heap.size+1) 10),none] (w.heap.size+1) (XI.cells ⟨2,0,0,0,false,false,0,0,0,0,0⟩) [(5,4, .bool true),(7,6, .int .i64 d),(9,10, .int .i64 im)] (by kernel_rfl) (by kernel_rfl) (by kernel_rfl) (by kernel_rfl) ⟨rfl,rfl,trivial⟩ HL.out.y.cells HL.out.y.open_ (by rfl) (by rfl)
    ⟨oR,oL 6 HL.out.x.cells,oR,oL 10 HL.out.x.cells,oR,oS,oR,oS,oR,oS,trivial⟩ fun V W' hV hS=>
    hK _ _ (Met.intro (hJ _ _ ⟨V 0,V 1,V 2,V 3,V 4,V 6,V 8,Lib.hid (RVX.region (y':=⟨2,0,0,0,true,false,d,0,0,0,im⟩) HL.out hS),by kernel_rfl⟩))
  case' rest=>
  replace HL:=hcut
  clear hcut c0 c1 c2 c3 c4 c5 c6 c7 c8 c9 c10
  obtain ⟨c0,c1,c2,c3,c4,c5,c6,c7,c8,c9,c10⟩:=XI.at HL.out.x.cells
  cases ow
  ·go_wp2_with (go_at_call 79;(with_reducible refine (HWd1.out _).mono ?_);rintro e w9 ⟨rfl,rfl⟩)
   go_ret
   exact ⟨by rw [HV.out];rfl,HL.out.fr⟩
  go_upto_region 48 with (go_at_call 79;(with_reducible refine (HWd1.out _).mono ?_);rintro e w9 ⟨rfl,rfl⟩)
 case' k3=>
  rintro rfl
  have HV:=Lib.hid (valid_3 a c z wd sh d r dp rl im)
  go_upto_region 19 with fail
  refine wp_then_of ?_
  intro KK hKK
  go_cut [] from 76 to 82 (fun wx=>Hid (RVX w ⟨3,a,c,z,wd,sh,d,r,dp,rl,im⟩ ⟨3,0,0,0,true,false,d,0,0,0,im⟩ wx))
  case first=>
   rename_i J K' hJ hK
   refine wp_fields [(1,ptr (w.heap.size) 0),(3,ptr (w.heap.size+1) 0)] [some (ptr (w.heap.size) 6),some (.int .i64 d),some (ptr (w.heap.size) 10),some (.int .i64 im),some (ptr (w.heap.size+1) 4),none,some (ptr (w.heap.size+1) 6),none,some (ptr (w.heap.size+1) 10),none] (w.heap.size+1) (XI.cells ⟨3,0,0,0,false,false,0,0,0,0,0⟩) [(5,4, .bool true),(7,6, .int .i64 d),(9,10, .int .i64 im)] (by kernel_rfl) (by kernel_rfl) (by kernel_rfl) (by kernel_rfl) ⟨rfl,rfl,trivial⟩ HL.out.y.cells HL.out.y.open_ (by rfl) (by rfl)
    ⟨oR,oL 6 HL.out.x.cells,oR,oL 10 HL.out.x.cells,oR,oS,oR,oS,oR,oS,trivial⟩ fun V W' hV hS=>
    hK _ _ (Met.intro (hJ _ _ ⟨V 0,V 1,V 2,V 3,V 4,V 6,V 8,Lib.hid (RVX.region (y':=⟨3,0,0,0,true,false,d,0,0,0,im⟩) HL.out hS),by kernel_rfl⟩))
  case' rest=>
  replace HL:=hcut
  clear hcut c0 c1 c2 c3 c4 c5 c6 c7 c8 c9 c10
  obtain ⟨c0,c1,c2,c3,c4,c5,c6,c7,c8,c9,c10⟩:=XI.at HL.out.x.cells
  rw [hKK]
  clear hKK
  dsimp only
  go_upto_region 48 with fail
 case' k4=>
  rintro rfl
  have HV:=Lib.hid (valid_4 a c z wd sh d r dp rl im)
  obtain ⟨oa,hoa⟩:∃oa,oneM a [0,1,4,5,6,7]=oa:=⟨_,rfl⟩
  rw [hoa] at HV
  have HA1:=HA.out a
  rw [hoa] at HA1
  have HA1:=Lib.hid HA1
  clear hoa
  go_upto_region 10 with fail
  go_cut [] from 25 to 36 (fun wx=>Hid (RVX w ⟨4,a,c,z,wd,sh,d,r,dp,rl,im⟩ ⟨4,a,0,0,wd,false,d,r,0,0,0⟩ wx))
  case first=>
   rename_i J K' hJ hK
   refine wp_fields [(1,ptr (w.heap.size) 0),(3,ptr (w.heap.size+1) 0)] [some (ptr (w.heap.size) 1),some (.int .i64 a),some (ptr (w.heap.size) 4),some (.bool wd),some (ptr (w.heap.size) 6),some (.int .i64 d),some (ptr (w.heap.size) 7),some (.int .i64 r),some (ptr (w.heap.size+1) 1),none,some (ptr (w.heap.size+1) 4),none,some (ptr (w.heap.size+1) 6),none,some (ptr (w.heap.size+1) 7),none] (w.heap.size+1) (XI.cells ⟨4,0,0,0,false,false,0,0,0,0,0⟩) [(9,1, .int .i64 a),(11,4, .bool wd),(13,6, .int .i64 d),(15,7, .int .i64 r)] (by kernel_rfl) (by kernel_rfl) (by kernel_rfl) (by kernel_rfl) ⟨rfl,rfl,trivial⟩ HL.out.y.cells HL.out.y.open_ (by rfl) (by rfl)
    ⟨oR,oL 1 HL.out.x.cells,oR,oL 4 HL.out.x.cells,oR,oL 6 HL.out.x.cells,oR,oL 7 HL.out.x.cells,oR,oS,oR,oS,oR,oS,oR,oS,trivial⟩ fun V W' hV hS=>
    hK _ _ (Met.intro (hJ _ _ ⟨V 0,V 1,V 2,V 3,V 4,V 5,V 6,V 7,V 8,V 10,V 12,V 14,Lib.hid (RVX.region (y':=⟨4,a,0,0,wd,false,d,r,0,0,0⟩) HL.out hS),by kernel_rfl⟩))
  case' rest=>
  replace HL:=hcut
  clear hcut c0 c1 c2 c3 c4 c5 c6 c7 c8 c9 c10
  obtain ⟨c0,c1,c2,c3,c4,c5,c6,c7,c8,c9,c10⟩:=XI.at HL.out.x.cells
  cases oa
  ·go_wp2_with (go_at_call 78;(with_reducible refine (HA1.out _).mono ?_);rintro e w9 ⟨rfl,hf9⟩;replace HL:=Lib.hid (HL.out.no hf9);clear c0 c1 c2 c3 c4 c5 c6 c7 c8 c9 c10;obtain ⟨c0,c1,c2,c3,c4,c5,c6,c7,c8,c9,c10⟩:=XI.at HL.out.x.cells;clear hf9)
   go_ret
   exact ⟨by rw [HV.out];rfl,HL.out.fr⟩
  go_upto_region 48 with (go_at_call 78;(with_reducible refine (HA1.out _).mono ?_);rintro e w9 ⟨rfl,hf9⟩;replace HL:=Lib.hid (HL.out.no hf9);clear c0 c1 c2 c3 c4 c5 c6 c7 c8 c9 c10;obtain ⟨c0,c1,c2,c3,c4,c5,c6,c7,c8,c9,c10⟩:=XI.at HL.out.x.cells;clear hf9)
 case' k5=>
  rintro rfl
  have HV:=Lib.hid (valid_5 a c z wd sh d r dp rl im)
  obtain ⟨oa,hoa⟩:∃oa,oneM a [0,1,4,5,6,7]=oa:=⟨_,rfl⟩
  rw [hoa] at HV
  have HA1:=HA.out a
  rw [hoa] at HA1
  have HA1:=Lib.hid HA1
  clear hoa
  obtain ⟨ow,how⟩:∃ow,wordB im=ow:=⟨_,rfl⟩
  rw [how] at HV
  have HWd1:=HWd.out im
  rw [how] at HWd1
  have HWd1:=Lib.hid HWd1
  clear how
  go_upto_region 13 with fail
  go_cut [] from 42 to 53 (fun wx=>Hid (RVX w ⟨5,a,c,z,wd,sh,d,r,dp,rl,im⟩ ⟨5,a,0,0,wd,false,d,0,0,0,im⟩ wx))
  case first=>
   rename_i J K' hJ hK
   refine wp_fields [(1,ptr (w.heap.size) 0),(3,ptr (w.heap.size+1) 0)] [some (ptr (w.heap.size) 1),some (.int .i64 a),some (ptr (w.heap.size) 4),some (.bool wd),some (ptr (w.heap.size) 6),some (.int .i64 d),some (ptr (w.heap.size) 10),some (.int .i64 im),some (ptr (w.heap.size+1) 1),none,some (ptr (w.heap.size+1) 4),none,some (ptr (w.heap.size+1) 6),none,some (ptr (w.heap.size+1) 10),none] (w.heap.size+1) (XI.cells ⟨5,0,0,0,false,false,0,0,0,0,0⟩) [(9,1, .int .i64 a),(11,4, .bool wd),(13,6, .int .i64 d),(15,10, .int .i64 im)] (by kernel_rfl) (by kernel_rfl) (by kernel_rfl) (by kernel_rfl) ⟨rfl,rfl,trivial⟩ HL.out.y.cells HL.out.y.open_ (by rfl) (by rfl)
    ⟨oR,oL 1 HL.out.x.cells,oR,oL 4 HL.out.x.cells,oR,oL 6 HL.out.x.cells,oR,oL 10 HL.out.x.cells,oR,oS,oR,oS,oR,oS,oR,oS,trivial⟩ fun V W' hV hS=>
    hK _ _ (Met.intro (hJ _ _ ⟨V 0,V 1,V 2,V 3,V 4,V 5,V 6,V 7,V 8,V 10,V 12,V 14,Lib.hid (RVX.region (y':=⟨5,a,0,0,wd,false,d,0,0,0,im⟩) HL.out hS),by kernel_rfl⟩))
  case' rest=>
  replace HL:=hcut
  clear hcut c0 c1 c2 c3 c4 c5 c6 c7 c8 c9 c10
  obtain ⟨c0,c1,c2,c3,c4,c5,c6,c7,c8,c9,c10⟩:=XI.at HL.out.x.cells
  cases oa
  ·go_wp2_with (go_at_call 78;(with_reducible refine (HA1.out _).mono ?_);rintro e w9 ⟨rfl,hf9⟩;replace HL:=Lib.hid (HL.out.no hf9);clear c0 c1 c2 c3 c4 c5 c6 c7 c8 c9 c10;obtain ⟨c0,c1,c2,c3,c4,c5,c6,c7,c8,c9,c10⟩:=XI.at HL.out.x.cells;clear hf9)
   go_ret
   exact ⟨by rw [HV.out];rfl,HL.out.fr⟩
  cases ow
  ·go_wp2_with (first|(go_at_call 78;(with_reducible refine (HA1.out _).mono ?_);rintro e w9 ⟨rfl,hf9⟩;replace HL:=Lib.hid (HL.out.no hf9);clear c0 c1 c2 c3 c4 c5 c6 c7 c8 c9 c10;obtain ⟨c0,c1,c2,c3,c4,c5,c6,c7,c8,c9,c10⟩:=XI.at HL.out.x.cells;clear hf9)|(go_at_call 79;(with_reducible refine (HWd1.out _).mono ?_);rintro e w9 ⟨rfl,rfl⟩))
   go_ret
   exact ⟨by rw [HV.out];rfl,HL.out.fr⟩
  go_upto_region 48 with (first|(go_at_call 78;(with_reducible refine (HA1.out _).mono ?_);rintro e w9 ⟨rfl,hf9⟩;replace HL:=Lib.hid (HL.out.no hf9);clear c0 c1 c2 c3 c4 c5 c6 c7 c8 c9 c10;obtain ⟨c0,c1,c2,c3,c4,c5,c6,c7,c8,c9,c10⟩:=XI.at HL.out.x.cells;clear hf9)|(go_at_call 79;(with_reducible refine (HWd1.out _).mono ?_);rintro e w9 ⟨rfl,rfl⟩))
 case' k6=>
  rintro rfl
  have HV:=Lib.hid (valid_6 a c z wd sh d r dp rl im)
  go_upto_region 8 with fail
  refine wp_then_of ?_
  intro KK hKK
  go_cut [] from 14 to 22 (fun wx=>Hid (RVX w ⟨6,a,c,z,wd,sh,d,r,dp,rl,im⟩ ⟨6,0,0,0,wd,false,d,r,0,0,0⟩ wx))
  case first=>
   rename_i J K' hJ hK
   refine wp_fields [(1,ptr (w.heap.size) 0),(3,ptr (w.heap.size+1) 0)] [some (ptr (w.heap.size) 4),some (.bool wd),some (ptr (w.heap.size) 6),some (.int .i64 d),some (ptr (w.heap.size) 7),some (.int .i64 r),some (ptr (w.heap.size+1) 4),none,some (ptr (w.heap.size+1) 6),none,some (ptr (w.heap.size+1) 7),none] (w.heap.size+1) (XI.cells ⟨6,0,0,0,false,false,0,0,0,0,0⟩) [(7,4, .bool wd),(9,6, .int .i64 d),(11,7, .int .i64 r)] (by kernel_rfl) (by kernel_rfl) (by kernel_rfl) (by kernel_rfl) ⟨rfl,rfl,trivial⟩ HL.out.y.cells HL.out.y.open_ (by rfl) (by rfl)
    ⟨oR,oL 4 HL.out.x.cells,oR,oL 6 HL.out.x.cells,oR,oL 7 HL.out.x.cells,oR,oS,oR,oS,oR,oS,trivial⟩ fun V W' hV hS=>
    hK _ _ (Met.intro (hJ _ _ ⟨V 0,V 1,V 2,V 3,V 4,V 5,V 6,V 8,V 10,Lib.hid (RVX.region (y':=⟨6,0,0,0,wd,false,d,r,0,0,0⟩) HL.out hS),by kernel_rfl⟩))
  case' rest=>
  replace HL:=hcut
  clear hcut c0 c1 c2 c3 c4 c5 c6 c7 c8 c9 c10
  obtain ⟨c0,c1,c2,c3,c4,c5,c6,c7,c8,c9,c10⟩:=XI.at HL.out.x.cells
  rw [hKK]
  clear hKK
  dsimp only
  go_upto_region 48 with fail
 case' k7=>
  rintro rfl
  have HV:=Lib.hid (valid_7 a c z wd sh d r dp rl im)
  go_upto_region 23 with fail
  refine wp_then_of ?_
  intro KK hKK
  go_cut [] from 87 to 92 (fun wx=>Hid (RVX w ⟨7,a,c,z,wd,sh,d,r,dp,rl,im⟩ ⟨7,0,0,0,wd,false,d,0,0,0,0⟩ wx))
  case first=>
   rename_i J K' hJ hK
   refine wp_fields [(1,ptr (w.heap.size) 0),(3,ptr (w.heap.size+1) 0)] [some (ptr (w.heap.size) 4),some (.bool wd),some (ptr (w.heap.size) 6),some (.int .i64 d),some (ptr (w.heap.size+1) 4),none,some (ptr (w.heap.size+1) 6),none] (w.heap.size+1) (XI.cells ⟨7,0,0,0,false,false,0,0,0,0,0⟩) [(5,4, .bool wd),(7,6, .int .i64 d)] (by kernel_rfl) (by kernel_rfl) (by kernel_rfl) (by kernel_rfl) ⟨rfl,rfl,trivial⟩ HL.out.y.cells HL.out.y.open_ (by rfl) (by rfl)
    ⟨oR,oL 4 HL.out.x.cells,oR,oL 6 HL.out.x.cells,oR,oS,oR,oS,trivial⟩ fun V W' hV hS=>
    hK _ _ (Met.intro (hJ _ _ ⟨V 0,V 1,V 2,V 3,V 4,V 6,Lib.hid (RVX.region (y':=⟨7,0,0,0,wd,false,d,0,0,0,0⟩) HL.out hS),by kernel_rfl⟩))
  case' rest=>
  replace HL:=hcut
  clear hcut c0 c1 c2 c3 c4 c5 c6 c7 c8 c9 c10
  obtain ⟨c0,c1,c2,c3,c4,c5,c6,c7,c8,c9,c10⟩:=XI.at HL.out.x.cells
  rw [hKK]
  clear hKK
  dsimp only
  go_upto_region 48 with fail
 case' k8=>
  rintro rfl
  have HV:=Lib.hid (valid_8 a c z wd sh d r dp rl im)
  go_upto_region 23 with fail
  refine wp_then_of ?_
  intro KK hKK
  go_cut [] from 87 to 92 (fun wx=>Hid (RVX w ⟨8,a,c,z,wd,sh,d,r,dp,rl,im⟩ ⟨8,0,0,0,wd,false,d,0,0,0,0⟩ wx))
  case first=>
   rename_i J K' hJ hK
   refine wp_fields [(1,ptr (w.heap.size) 0),(3,ptr (w.heap.size+1) 0)] [some (ptr (w.heap.size) 4),some (.bool wd),some (ptr (w.heap.size) 6),some (.int .i64 d),some (ptr (w.heap.size+1) 4),none,some (ptr (w.heap.size+1) 6),none] (w.heap.size+1) (XI.cells ⟨8,0,0,0,false,false,0,0,0,0,0⟩) [(5,4, .bool wd),(7,6, .int .i64 d)] (by kernel_rfl) (by kernel_rfl) (by kernel_rfl) (by kernel_rfl) ⟨rfl,rfl,trivial⟩ HL.out.y.cells HL.out.y.open_ (by rfl) (by rfl)
    ⟨oR,oL 4 HL.out.x.cells,oR,oL 6 HL.out.x.cells,oR,oS,oR,oS,trivial⟩ fun V W' hV hS=>
    hK _ _ (Met.intro (hJ _ _ ⟨V 0,V 1,V 2,V 3,V 4,V 6,Lib.hid (RVX.region (y':=⟨8,0,0,0,wd,false,d,0,0,0,0⟩) HL.out hS),by kernel_rfl⟩))
  case' rest=>
  replace HL:=hcut
  clear hcut c0 c1 c2 c3 c4 c5 c6 c7 c8 c9 c10
  obtain ⟨c0,c1,c2,c3,c4,c5,c6,c7,c8,c9,c10⟩:=XI.at HL.out.x.cells
  rw [hKK]
  clear hKK
  dsimp only
  go_upto_region 48 with fail
 case' k9=>
  rintro rfl
  have HV:=Lib.hid (valid_9 a c z wd sh d r dp rl im)
  go_upto_region 23 with fail
  refine wp_then_of ?_
  intro KK hKK
  go_cut [] from 87 to 92 (fun wx=>Hid (RVX w ⟨9,a,c,z,wd,sh,d,r,dp,rl,im⟩ ⟨9,0,0,0,wd,false,d,0,0,0,0⟩ wx))
  case first=>
   rename_i J K' hJ hK
   refine wp_fields [(1,ptr (w.heap.size) 0),(3,ptr (w.heap.size+1) 0)] [some (ptr (w.heap.size) 4),some (.bool wd),some (ptr (w.heap.size) 6),some (.int .i64 d),some (ptr (w.heap.size+1) 4),none,some (ptr (w.heap.size+1) 6),none] (w.heap.size+1) (XI.cells ⟨9,0,0,0,false,false,0,0,0,0,0⟩) [(5,4, .bool wd),(7,6, .int .i64 d)] (by kernel_rfl) (by kernel_rfl) (by kernel_rfl) (by kernel_rfl) ⟨rfl,rfl,trivial⟩ HL.out.y.cells HL.out.y.open_ (by rfl) (by rfl)
    ⟨oR,oL 4 HL.out.x.cells,oR,oL 6 HL.out.x.cells,oR,oS,oR,oS,trivial⟩ fun V W' hV hS=>
    hK _ _ (Met.intro (hJ _ _ ⟨V 0,V 1,V 2,V 3,V 4,V 6,Lib.hid (RVX.region (y':=⟨9,0,0,0,wd,false,d,0,0,0,0⟩) HL.out hS),by kernel_rfl⟩))
  case' rest=>
  replace HL:=hcut
  clear hcut c0 c1 c2 c3 c4 c5 c6 c7 c8 c9 c10
  obtain ⟨c0,c1,c2,c3,c4,c5,c6,c7,c8,c9,c10⟩:=XI.at HL.out.x.cells
  rw [hKK]
  clear hKK
  dsimp only
  go_upto_region 48 with fail
 case' k10=>
  rintro rfl
  have HV:=Lib.hid (valid_10 a c z wd sh d r dp rl im)
  go_upto_region 8 with fail
  refine wp_then_of ?_
  intro KK hKK
  go_cut [] from 14 to 22 (fun wx=>Hid (RVX w ⟨10,a,c,z,wd,sh,d,r,dp,rl,im⟩ ⟨10,0,0,0,wd,false,d,r,0,0,0⟩ wx))
  case first=>
   rename_i J K' hJ hK
   refine wp_fields [(1,ptr (w.heap.size) 0),(3,ptr (w.heap.size+1) 0)] [some (ptr (w.heap.size) 4),some (.bool wd),some (ptr (w.heap.size) 6),some (.int .i64 d),some (ptr (w.heap.size) 7),some (.int .i64 r),some (ptr (w.heap.size+1) 4),none,some (ptr (w.heap.size+1) 6),none,some (ptr (w.heap.size+1) 7),none] (w.heap.size+1) (XI.cells ⟨10,0,0,0,false,false,0,0,0,0,0⟩) [(7,4, .bool wd),(9,6, .int .i64 d),(11,7, .int .i64 r)] (by kernel_rfl) (by kernel_rfl) (by kernel_rfl) (by kernel_rfl) ⟨rfl,rfl,trivial⟩ HL.out.y.cells HL.out.y.open_ (by rfl) (by rfl)
    ⟨oR,oL 4 HL.out.x.cells,oR,oL 6 HL.out.x.cells,oR,oL 7 HL.out.x.cells,oR,oS,oR,oS,oR,oS,trivial⟩ fun V W' hV hS=>
    hK _ _ (Met.intro (hJ _ _ ⟨V 0,V 1,V 2,V 3,V 4,V 5,V 6,V 8,V 10,Lib.hid (RVX.region (y':=⟨10,0,0,0,wd,false,d,r,0,0,0⟩) HL.out hS),by kernel_rfl⟩))
  case' rest=>
  replace HL:=hcut
  clear hcut c0 c1 c2 c3 c4 c5 c6 c7 c8 c9 c10
  obtain ⟨c0,c1,c2,c3,c4,c5,c6,c7,c8,c9,c10⟩:=XI.at HL.out.x.cells
  rw [hKK]
  clear hKK
  dsimp only
  go_upto_region 48 with fail
 case' k11=>
  rintro rfl
  have HV:=Lib.hid (valid_11 a c z wd sh d r dp rl im)
  obtain ⟨oa,hoa⟩:∃oa,oneM a [4,5,7]=oa:=⟨_,rfl⟩
  rw [hoa] at HV
  have HS1:=HS.out a
  rw [hoa] at HS1
  have HS1:=Lib.hid HS1
  clear hoa
  go_upto_region 25 with fail
  go_cut [] from 95 to 106 (fun wx=>Hid (RVX w ⟨11,a,c,z,wd,sh,d,r,dp,rl,im⟩ ⟨11,a,0,0,wd,false,d,0,0,0,im⟩ wx))
  case first=>
   rename_i J K' hJ hK
   refine wp_fields [(1,ptr (w.heap.size) 0),(3,ptr (w.heap.size+1) 0)] [some (ptr (w.heap.size) 1),some (.int .i64 a),some (ptr (w.heap.size) 4),some (.bool wd),some (ptr (w.heap.size) 6),some (.int .i64 d),some (ptr (w.heap.size) 10),some (.int .i64 im),some (ptr (w.heap.size+1) 1),none,some (ptr (w.heap.size+1) 4),none,some (ptr (w.heap.size+1) 6),none,some (ptr (w.heap.size+1) 10),none] (w.heap.size+1) (XI.cells ⟨11,0,0,0,false,false,0,0,0,0,0⟩) [(9,1, .int .i64 a),(11,4, .bool wd),(13,6, .int .i64 d),(15,10, .int .i64 im)] (by kernel_rfl) (by kernel_rfl) (by kernel_rfl) (by kernel_rfl) ⟨rfl,rfl,trivial⟩ HL.out.y.cells HL.out.y.open_ (by rfl) (by rfl)
    ⟨oR,oL 1 HL.out.x.cells,oR,oL 4 HL.out.x.cells,oR,oL 6 HL.out.x.cells,oR,oL 10 HL.out.x.cells,oR,oS,oR,oS,oR,oS,oR,oS,trivial⟩ fun V W' hV hS=>
    hK _ _ (Met.intro (hJ _ _ ⟨V 0,V 1,V 2,V 3,V 4,V 5,V 6,V 7,V 8,V 10,V 12,V 14,Lib.hid (RVX.region (y':=⟨11,a,0,0,wd,false,d,0,0,0,im⟩) HL.out hS),by kernel_rfl⟩))
  case' rest=>
  replace HL:=hcut
  clear hcut c0 c1 c2 c3 c4 c5 c6 c7 c8 c9 c10
  obtain ⟨c0,c1,c2,c3,c4,c5,c6,c7,c8,c9,c10⟩:=XI.at HL.out.x.cells
  cases oa
  ·go_wp2_with (go_at_call 80;(with_reducible refine (HS1.out _).mono ?_);rintro e w9 ⟨rfl,hf9⟩;replace HL:=Lib.hid (HL.out.no hf9);clear c0 c1 c2 c3 c4 c5 c6 c7 c8 c9 c10;obtain ⟨c0,c1,c2,c3,c4,c5,c6,c7,c8,c9,c10⟩:=XI.at HL.out.x.cells;clear hf9)
   go_ret
   exact ⟨by rw [HV.out];rfl,HL.out.fr⟩
  by_cases i0:im<0
  ·rw [show decide (im≥0)=false by simp;omega] at HV
   have i2:¬(0:Int)≤im:=by omega
   go_wp2_with (go_at_call 80;(with_reducible refine (HS1.out _).mono ?_);rintro e w9 ⟨rfl,hf9⟩;replace HL:=Lib.hid (HL.out.no hf9);clear c0 c1 c2 c3 c4 c5 c6 c7 c8 c9 c10;obtain ⟨c0,c1,c2,c3,c4,c5,c6,c7,c8,c9,c10⟩:=XI.at HL.out.x.cells;clear hf9)
   go_ret
   exact ⟨by rw [HV.out];rfl,HL.out.fr⟩
  have i0':(0:Int)≤im:=by omega
  rw [show decide (im≥0)=true by simp;omega] at HV
  clear i0
  by_cases i1:im<32
  case' pos=>
   rw [show decide (im<32)=true by simp;omega] at HV
   go_upto_region 48 with (go_at_call 80;(with_reducible refine (HS1.out _).mono ?_);rintro e w9 ⟨rfl,hf9⟩;replace HL:=Lib.hid (HL.out.no hf9);clear c0 c1 c2 c3 c4 c5 c6 c7 c8 c9 c10;obtain ⟨c0,c1,c2,c3,c4,c5,c6,c7,c8,c9,c10⟩:=XI.at HL.out.x.cells;clear hf9)
  case' neg=>
   rw [show decide (im<32)=false by simp;omega] at HV
   have i1':decide (im<32)=false:=by simp;omega
   by_cases i2:im<64
   case' pos=>
    rw [show decide (im<64)=true by simp;omega] at HV
    clear i1
    cases wd
    ·go_wp2_with (go_at_call 80;(with_reducible refine (HS1.out _).mono ?_);rintro e w9 ⟨rfl,hf9⟩;replace HL:=Lib.hid (HL.out.no hf9);clear c0 c1 c2 c3 c4 c5 c6 c7 c8 c9 c10;obtain ⟨c0,c1,c2,c3,c4,c5,c6,c7,c8,c9,c10⟩:=XI.at HL.out.x.cells;clear hf9)
     go_ret
     exact ⟨by rw [HV.out];rfl,HL.out.fr⟩
    go_upto_region 48 with (go_at_call 80;(with_reducible refine (HS1.out _).mono ?_);rintro e w9 ⟨rfl,hf9⟩;replace HL:=Lib.hid (HL.out.no hf9);clear c0 c1 c2 c3 c4 c5 c6 c7 c8 c9 c10;obtain ⟨c0,c1,c2,c3,c4,c5,c6,c7,c8,c9,c10⟩:=XI.at HL.out.x.cells;clear hf9)
   case neg=>
    rw [show decide (im<64)=false by simp;omega] at HV
    have i2':decide (im<64)=false:=by simp;omega
    clear i1 i2
    go_wp2_with (go_at_call 80;(with_reducible refine (HS1.out _).mono ?_);rintro e w9 ⟨rfl,hf9⟩;replace HL:=Lib.hid (HL.out.no hf9);clear c0 c1 c2 c3 c4 c5 c6 c7 c8 c9 c10;obtain ⟨c0,c1,c2,c3,c4,c5,c6,c7,c8,c9,c10⟩:=XI.at HL.out.x.cells;clear hf9)
    go_ret
    exact ⟨by rw [HV.out];rfl,HL.out.fr⟩
 case' k12=>
  rintro rfl
  have HV:=Lib.hid (valid_12 a c z wd sh d r dp rl im)
  obtain ⟨oa,hoa⟩:∃oa,oneM a [4,5,7]=oa:=⟨_,rfl⟩
  rw [hoa] at HV
  have HS1:=HS.out a
  rw [hoa] at HS1
  have HS1:=Lib.hid HS1
  clear hoa
  go_upto_region 28 with fail
  go_cut [] from 131 to 139 (fun wx=>Hid (RVX w ⟨12,a,c,z,wd,sh,d,r,dp,rl,im⟩ ⟨12,a,0,0,wd,false,d,0,0,0,0⟩ wx))
  case first=>
   rename_i J K' hJ hK
   refine wp_fields [(1,ptr (w.heap.size) 0),(3,ptr (w.heap.size+1) 0)] [some (ptr (w.heap.size) 1),some (.int .i64 a),some (ptr (w.heap.size) 4),some (.bool wd),some (ptr (w.heap.size) 6),some (.int .i64 d),some (ptr (w.heap.size+1) 1),none,some (ptr (w.heap.size+1) 4),none,some (ptr (w.heap.size+1) 6),none] (w.heap.size+1) (XI.cells ⟨12,0,0,0,false,false,0,0,0,0,0⟩) [(7,1, .int .i64 a),(9,4, .bool wd),(11,6, .int .i64 d)] (by kernel_rfl) (by kernel_rfl) (by kernel_rfl) (by kernel_rfl) ⟨rfl,rfl,trivial⟩ HL.out.y.cells HL.out.y.open_ (by rfl) (by rfl)
    ⟨oR,oL 1 HL.out.x.cells,oR,oL 4 HL.out.x.cells,oR,oL 6 HL.out.x.cells,oR,oS,oR,oS,oR,oS,trivial⟩ fun V W' hV hS=>
    hK _ _ (Met.intro (hJ _ _ ⟨V 0,V 1,V 2,V 3,V 4,V 5,V 6,V 8,V 10,Lib.hid (RVX.region (y':=⟨12,a,0,0,wd,false,d,0,0,0,0⟩) HL.out hS),by kernel_rfl⟩))
  case' rest=>
  replace HL:=hcut
  clear hcut c0 c1 c2 c3 c4 c5 c6 c7 c8 c9 c10
  obtain ⟨c0,c1,c2,c3,c4,c5,c6,c7,c8,c9,c10⟩:=XI.at HL.out.x.cells
  cases oa
  ·go_wp2_with (go_at_call 80;(with_reducible refine (HS1.out _).mono ?_);rintro e w9 ⟨rfl,hf9⟩;replace HL:=Lib.hid (HL.out.no hf9);clear c0 c1 c2 c3 c4 c5 c6 c7 c8 c9 c10;obtain ⟨c0,c1,c2,c3,c4,c5,c6,c7,c8,c9,c10⟩:=XI.at HL.out.x.cells;clear hf9)
   go_ret
   exact ⟨by rw [HV.out];rfl,HL.out.fr⟩
  go_upto_region 48 with (go_at_call 80;(with_reducible refine (HS1.out _).mono ?_);rintro e w9 ⟨rfl,hf9⟩;replace HL:=Lib.hid (HL.out.no hf9);clear c0 c1 c2 c3 c4 c5 c6 c7 c8 c9 c10;obtain ⟨c0,c1,c2,c3,c4,c5,c6,c7,c8,c9,c10⟩:=XI.at HL.out.x.cells;clear hf9)
 case' k13=>
  rintro rfl
  have HV:=Lib.hid (valid_13 a c z wd sh d r dp rl im)
  obtain ⟨oa,hoa⟩:∃oa,oneM z [1,2,4,8]=oa:=⟨_,rfl⟩
  rw [hoa] at HV
  have HO1:=HO.out z
  rw [hoa] at HO1
  have HO1:=Lib.hid HO1
  clear hoa
  go_upto_region 32 with fail
  go_cut [] from 146 to 161 (fun wx=>Hid (RVX w ⟨13,a,c,z,wd,sh,d,r,dp,rl,im⟩ ⟨13,0,0,z,decide (z=8),false,d,r,dp,0,0⟩ wx))
  case first=>
   rename_i J K' hJ hK
   refine wp_fields [(1,ptr (w.heap.size) 0),(3,ptr (w.heap.size+1) 0)] [some (ptr (w.heap.size) 3),some (.int .i64 z),some (ptr (w.heap.size) 3),some (.int .i64 z),some (.bool (decide (z=8))),some (ptr (w.heap.size) 6),some (.int .i64 d),some (ptr (w.heap.size) 7),some (.int .i64 r),some (ptr (w.heap.size) 8),some (.int .i32 dp),some (ptr (w.heap.size+1) 3),none,some (ptr (w.heap.size+1) 4),none,some (ptr (w.heap.size+1) 6),none,some (ptr (w.heap.size+1) 7),none,some (ptr (w.heap.size+1) 8),none] (w.heap.size+1) (XI.cells ⟨13,0,0,0,false,false,0,0,0,0,0⟩) [(12,3, .int .i64 z),(14,4, .bool (decide (z=8))),(16,6, .int .i64 d),(18,7, .int .i64 r),(20,8, .int .i32 dp)] (by kernel_rfl) (by kernel_rfl) (by kernel_rfl) (by kernel_rfl) ⟨rfl,rfl,trivial⟩ HL.out.y.cells HL.out.y.open_ (by rfl) (by rfl)
    ⟨oR,oL 3 HL.out.x.cells,oR,oL 3 HL.out.x.cells,oR,oR,oL 6 HL.out.x.cells,oR,oL 7 HL.out.x.cells,oR,oL 8 HL.out.x.cells,oR,oS,oR,oS,oR,oS,oR,oS,oR,oS,trivial⟩ fun V W' hV hS=>
    hK _ _ (Met.intro (hJ _ _ ⟨V 0,V 1,V 2,V 3,V 4,V 5,V 6,V 7,V 8,V 9,V 10,V 11,V 13,V 15,V 17,V 19,Lib.hid (RVX.region (y':=⟨13,0,0,z,decide (z=8),false,d,r,dp,0,0⟩) HL.out hS),by kernel_rfl⟩))
  case' rest=>
  replace HL:=hcut
  clear hcut c0 c1 c2 c3 c4 c5 c6 c7 c8 c9 c10
  obtain ⟨c0,c1,c2,c3,c4,c5,c6,c7,c8,c9,c10⟩:=XI.at HL.out.x.cells
  cases oa
  ·go_wp2_with (go_at_call 81;(with_reducible refine (HO1.out _).mono ?_);rintro e w9 ⟨rfl,hf9⟩;replace HL:=Lib.hid (HL.out.no hf9);clear c0 c1 c2 c3 c4 c5 c6 c7 c8 c9 c10;obtain ⟨c0,c1,c2,c3,c4,c5,c6,c7,c8,c9,c10⟩:=XI.at HL.out.x.cells;clear hf9)
   go_ret
   exact ⟨by rw [HV.out];rfl,HL.out.fr⟩
  go_upto_region 48 with (go_at_call 81;(with_reducible refine (HO1.out _).mono ?_);rintro e w9 ⟨rfl,hf9⟩;replace HL:=Lib.hid (HL.out.no hf9);clear c0 c1 c2 c3 c4 c5 c6 c7 c8 c9 c10;obtain ⟨c0,c1,c2,c3,c4,c5,c6,c7,c8,c9,c10⟩:=XI.at HL.out.x.cells;clear hf9)
 case' k14=>
  rintro rfl
  have HV:=Lib.hid (valid_14 a c z wd sh d r dp rl im)
  obtain ⟨oa,hoa⟩:∃oa,oneM z [1,2,4,8]=oa:=⟨_,rfl⟩
  rw [hoa] at HV
  have HO1:=HO.out z
  rw [hoa] at HO1
  have HO1:=Lib.hid HO1
  clear hoa
  go_upto_region 32 with fail
  go_cut [] from 146 to 161 (fun wx=>Hid (RVX w ⟨14,a,c,z,wd,sh,d,r,dp,rl,im⟩ ⟨14,0,0,z,decide (z=8),false,d,r,dp,0,0⟩ wx))
  case first=>
   rename_i J K' hJ hK
   refine wp_fields [(1,ptr (w.heap.size) 0),(3,ptr (w.heap.size+1) 0)] [some (ptr (w.heap.size) 3),some (.int .i64 z),some (ptr (w.heap.size) 3),some (.int .i64 z),some (.bool (decide (z=8))),some (ptr (w.heap.size) 6),some (.int .i64 d),some (ptr (w.heap.size) 7),some (.int .i64 r),some (ptr (w.heap.size) 8),some (.int .i32 dp),some (ptr (w.heap.size+1) 3),none,some (ptr (w.heap.size+1) 4),none,some (ptr (w.heap.size+1) 6),none,some (ptr (w.heap.size+1) 7),none,some (ptr (w.heap.size+1) 8),none] (w.heap.size+1) (XI.cells ⟨14,0,0,0,false,false,0,0,0,0,0⟩) [(12,3, .int .i64 z),(14,4, .bool (decide (z=8))),(16,6, .int .i64 d),(18,7, .int .i64 r),(20,8, .int .i32 dp)] (by kernel_rfl) (by kernel_rfl) (by kernel_rfl) (by kernel_rfl) ⟨rfl,rfl,trivial⟩ HL.out.y.cells HL.out.y.open_ (by rfl) (by rfl)
    ⟨oR,oL 3 HL.out.x.cells,oR,oL 3 HL.out.x.cells,oR,oR,oL 6 HL.out.x.cells,oR,oL 7 HL.out.x.cells,oR,oL 8 HL.out.x.cells,oR,oS,oR,oS,oR,oS,oR,oS,oR,oS,trivial⟩ fun V W' hV hS=>
    hK _ _ (Met.intro (hJ _ _ ⟨V 0,V 1,V 2,V 3,V 4,V 5,V 6,V 7,V 8,V 9,V 10,V 11,V 13,V 15,V 17,V 19,Lib.hid (RVX.region (y':=⟨14,0,0,z,decide (z=8),false,d,r,dp,0,0⟩) HL.out hS),by kernel_rfl⟩))
  case' rest=>
  replace HL:=hcut
  clear hcut c0 c1 c2 c3 c4 c5 c6 c7 c8 c9 c10
  obtain ⟨c0,c1,c2,c3,c4,c5,c6,c7,c8,c9,c10⟩:=XI.at HL.out.x.cells
  cases oa
  ·go_wp2_with (go_at_call 81;(with_reducible refine (HO1.out _).mono ?_);rintro e w9 ⟨rfl,hf9⟩;replace HL:=Lib.hid (HL.out.no hf9);clear c0 c1 c2 c3 c4 c5 c6 c7 c8 c9 c10;obtain ⟨c0,c1,c2,c3,c4,c5,c6,c7,c8,c9,c10⟩:=XI.at HL.out.x.cells;clear hf9)
   go_ret
   exact ⟨by rw [HV.out];rfl,HL.out.fr⟩
  go_upto_region 48 with (go_at_call 81;(with_reducible refine (HO1.out _).mono ?_);rintro e w9 ⟨rfl,hf9⟩;replace HL:=Lib.hid (HL.out.no hf9);clear c0 c1 c2 c3 c4 c5 c6 c7 c8 c9 c10;obtain ⟨c0,c1,c2,c3,c4,c5,c6,c7,c8,c9,c10⟩:=XI.at HL.out.x.cells;clear hf9)
 case' k15=>
  rintro rfl
  have HV:=Lib.hid (valid_15 a c z wd sh d r dp rl im)
  go_upto_region 36 with fail
  go_cut [] from 169 to 174 (fun wx=>Hid (RVX w ⟨15,a,c,z,wd,sh,d,r,dp,rl,im⟩ ⟨15,0,0,0,false,sh,0,0,0,rl,0⟩ wx))
  case first=>
   rename_i J K' hJ hK
   refine wp_fields [(1,ptr (w.heap.size) 0),(3,ptr (w.heap.size+1) 0)] [some (ptr (w.heap.size) 5),some (.bool sh),some (ptr (w.heap.size) 9),some (.int .i32 rl),some (ptr (w.heap.size+1) 5),none,some (ptr (w.heap.size+1) 9),none] (w.heap.size+1) (XI.cells ⟨15,0,0,0,false,false,0,0,0,0,0⟩) [(5,5, .bool sh),(7,9, .int .i32 rl)] (by kernel_rfl) (by kernel_rfl) (by kernel_rfl) (by kernel_rfl) ⟨rfl,rfl,trivial⟩ HL.out.y.cells HL.out.y.open_ (by rfl) (by rfl)
    ⟨oR,oL 5 HL.out.x.cells,oR,oL 9 HL.out.x.cells,oR,oS,oR,oS,trivial⟩ fun V W' hV hS=>
    hK _ _ (Met.intro (hJ _ _ ⟨V 0,V 1,V 2,V 3,V 4,V 6,Lib.hid (RVX.region (y':=⟨15,0,0,0,false,sh,0,0,0,rl,0⟩) HL.out hS),by kernel_rfl⟩))
  case' rest=>
  replace HL:=hcut
  clear hcut c0 c1 c2 c3 c4 c5 c6 c7 c8 c9 c10
  obtain ⟨c0,c1,c2,c3,c4,c5,c6,c7,c8,c9,c10⟩:=XI.at HL.out.x.cells
  cases sh
  case' false=>
   go_upto_region 48 with fail
  case' true=>
   by_cases i0:rl< -128
   ·rw [show decide (rl≥-128)=false by simp;omega] at HV
    have i2:¬(-128:Int)≤rl:=by omega
    go_wp2_with fail
    go_ret
    exact ⟨by rw [HV.out];rfl,HL.out.fr⟩
   rw [show decide (rl≥-128)=true by simp;omega] at HV
   have i0':(-128:Int)≤rl:=by omega
   clear i0
   by_cases i1:rl≤127
   case' pos=>
    rw [show decide (rl≤127)=true by simp;omega] at HV
    go_upto_region 48 with fail
   case neg=>
    rw [show decide (rl≤127)=false by simp;omega] at HV
    go_wp2_with fail
    go_ret
    exact ⟨by rw [HV.out];rfl,HL.out.fr⟩
 case' k16=>
  rintro rfl
  have HV:=Lib.hid (valid_16 a c z wd sh d r dp rl im)
  obtain ⟨oa,hoa⟩:∃oa,oneM c condsL=oa:=⟨_,rfl⟩
  rw [hoa] at HV
  have HC1:=HC.out c
  rw [hoa] at HC1
  have HC1:=Lib.hid HC1
  clear hoa
  go_upto_region 36 with fail
  go_cut [] from 169 to 174 (fun wx=>Hid (RVX w ⟨16,a,c,z,wd,sh,d,r,dp,rl,im⟩ ⟨16,0,0,0,false,sh,0,0,0,rl,0⟩ wx))
  case first=>
   rename_i J K' hJ hK
   refine wp_fields [(1,ptr (w.heap.size) 0),(3,ptr (w.heap.size+1) 0)] [some (ptr (w.heap.size) 5),some (.bool sh),some (ptr (w.heap.size) 9),some (.int .i32 rl),some (ptr (w.heap.size+1) 5),none,some (ptr (w.heap.size+1) 9),none] (w.heap.size+1) (XI.cells ⟨16,0,0,0,false,false,0,0,0,0,0⟩) [(5,5, .bool sh),(7,9, .int .i32 rl)] (by kernel_rfl) (by kernel_rfl) (by kernel_rfl) (by kernel_rfl) ⟨rfl,rfl,trivial⟩ HL.out.y.cells HL.out.y.open_ (by rfl) (by rfl)
    ⟨oR,oL 5 HL.out.x.cells,oR,oL 9 HL.out.x.cells,oR,oS,oR,oS,trivial⟩ fun V W' hV hS=>
    hK _ _ (Met.intro (hJ _ _ ⟨V 0,V 1,V 2,V 3,V 4,V 6,Lib.hid (RVX.region (y':=⟨16,0,0,0,false,sh,0,0,0,rl,0⟩) HL.out hS),by kernel_rfl⟩))
  case' rest=>
  replace HL:=hcut
  clear hcut c0 c1 c2 c3 c4 c5 c6 c7 c8 c9 c10
  obtain ⟨c0,c1,c2,c3,c4,c5,c6,c7,c8,c9,c10⟩:=XI.at HL.out.x.cells
  cases sh
  case' false=>
   obtain ⟨y0,y1,y2,y3,y4,y5,y6,y7,y8,y9,y10⟩:=XI.at HL.out.y.cells
   have oy:=HL.out.y.open_
   replace HL:=Lib.hid (HL.out.put (y':=⟨16,0,c,0,false,false,0,0,0,rl,0⟩) (j:=2) (v:= .int .i64 c) (by decide) rfl)
   cases oa
   ·go_wp2_with (go_at_call 82;(with_reducible refine (HC1.out _).mono ?_);rintro e w9 ⟨rfl,hf9⟩;replace HL:=Lib.hid (HL.out.no hf9);clear hf9)
    go_ret
    exact ⟨by rw [HV.out];rfl,HL.out.fr⟩
   go_upto_region 48 with (go_at_call 82;(with_reducible refine (HC1.out _).mono ?_);rintro e w9 ⟨rfl,hf9⟩;replace HL:=Lib.hid (HL.out.no hf9);clear hf9)
   clear y0 y1 y2 y3 y4 y5 y6 y7 y8 y9 y10 oy c0 c1 c2 c3 c4 c5 c6 c7 c8 c9 c10
   obtain ⟨c0,c1,c2,c3,c4,c5,c6,c7,c8,c9,c10⟩:=XI.at HL.out.x.cells
  case' true=>
   by_cases i0:rl< -128
   ·rw [show decide (rl≥-128)=false by simp;omega] at HV
    have i2:¬(-128:Int)≤rl:=by omega
    obtain ⟨y0,y1,y2,y3,y4,y5,y6,y7,y8,y9,y10⟩:=XI.at HL.out.y.cells
    have oy:=HL.out.y.open_
    replace HL:=Lib.hid (HL.out.put (y':=⟨16,0,c,0,false,true,0,0,0,rl,0⟩) (j:=2) (v:= .int .i64 c) (by decide) rfl)
    go_wp2_with fail
    go_ret
    exact ⟨by rw [HV.out];rfl,HL.out.fr⟩
   rw [show decide (rl≥-128)=true by simp;omega] at HV
   have i0':(-128:Int)≤rl:=by omega
   clear i0
   by_cases i1:rl≤127
   case' pos=>
    rw [show decide (rl≤127)=true by simp;omega] at HV
    obtain ⟨y0,y1,y2,y3,y4,y5,y6,y7,y8,y9,y10⟩:=XI.at HL.out.y.cells
    have oy:=HL.out.y.open_
    replace HL:=Lib.hid (HL.out.put (y':=⟨16,0,c,0,false,true,0,0,0,rl,0⟩) (j:=2) (v:= .int .i64 c) (by decide) rfl)
    cases oa
    ·go_wp2_with (go_at_call 82;(with_reducible refine (HC1.out _).mono ?_);rintro e w9 ⟨rfl,hf9⟩;replace HL:=Lib.hid (HL.out.no hf9);clear hf9)
     go_ret
     exact ⟨by rw [HV.out];rfl,HL.out.fr⟩
    go_upto_region 48 with (go_at_call 82;(with_reducible refine (HC1.out _).mono ?_);rintro e w9 ⟨rfl,hf9⟩;replace HL:=Lib.hid (HL.out.no hf9);clear hf9)
    clear y0 y1 y2 y3 y4 y5 y6 y7 y8 y9 y10 oy c0 c1 c2 c3 c4 c5 c6 c7 c8 c9 c10
    obtain ⟨c0,c1,c2,c3,c4,c5,c6,c7,c8,c9,c10⟩:=XI.at HL.out.x.cells
   case neg=>
    rw [show decide (rl≤127)=false by simp;omega] at HV
    obtain ⟨y0,y1,y2,y3,y4,y5,y6,y7,y8,y9,y10⟩:=XI.at HL.out.y.cells
    have oy:=HL.out.y.open_
    replace HL:=Lib.hid (HL.out.put (y':=⟨16,0,c,0,false,true,0,0,0,rl,0⟩) (j:=2) (v:= .int .i64 c) (by decide) rfl)
    go_wp2_with fail
    go_ret
    exact ⟨by rw [HV.out];rfl,HL.out.fr⟩
 case' k17=>
  rintro rfl
  have HV:=Lib.hid (valid_17 a c z wd sh d r dp rl im)
  obtain ⟨y0,y1,y2,y3,y4,y5,y6,y7,y8,y9,y10⟩:=XI.at HL.out.y.cells
  have oy:=HL.out.y.open_
  replace HL:=Lib.hid (HL.out.put (y':=⟨17,0,0,0,false,false,d,0,0,0,0⟩) (j:=6) (v:= .int .i64 d) (by decide) rfl)
  go_upto_region 48 with fail
  clear y0 y1 y2 y3 y4 y5 y6 y7 y8 y9 y10 oy c0 c1 c2 c3 c4 c5 c6 c7 c8 c9 c10
  obtain ⟨c0,c1,c2,c3,c4,c5,c6,c7,c8,c9,c10⟩:=XI.at HL.out.x.cells
 case' k18=>
  rintro rfl
  have HV:=Lib.hid (valid_18 a c z wd sh d r dp rl im)
  obtain ⟨y0,y1,y2,y3,y4,y5,y6,y7,y8,y9,y10⟩:=XI.at HL.out.y.cells
  have oy:=HL.out.y.open_
  replace HL:=Lib.hid (HL.out.put (y':=⟨18,0,0,0,false,false,d,0,0,0,0⟩) (j:=6) (v:= .int .i64 d) (by decide) rfl)
  go_upto_region 48 with fail
  clear y0 y1 y2 y3 y4 y5 y6 y7 y8 y9 y10 oy c0 c1 c2 c3 c4 c5 c6 c7 c8 c9 c10
  obtain ⟨c0,c1,c2,c3,c4,c5,c6,c7,c8,c9,c10⟩:=XI.at HL.out.x.cells
 case' k19=>
  rintro rfl
  have HV:=Lib.hid (valid_19 a c z wd sh d r dp rl im)
  go_upto_region 48 with fail
 case' k20=>
  rintro rfl
  have HV:=Lib.hid (valid_20 a c z wd sh d r dp rl im)
  obtain ⟨y0,y1,y2,y3,y4,y5,y6,y7,y8,y9,y10⟩:=XI.at HL.out.y.cells
  have oy:=HL.out.y.open_
  replace HL:=Lib.hid (HL.out.put (y':=⟨20,0,0,0,false,false,0,0,0,rl,0⟩) (j:=9) (v:= .int .i32 rl) (by decide) rfl)
  go_upto_region 48 with fail
  clear y0 y1 y2 y3 y4 y5 y6 y7 y8 y9 y10 oy c0 c1 c2 c3 c4 c5 c6 c7 c8 c9 c10
  obtain ⟨c0,c1,c2,c3,c4,c5,c6,c7,c8,c9,c10⟩:=XI.at HL.out.x.cells
 case' k21=>
  rintro rfl
  have HV:=Lib.hid (valid_21 a c z wd sh d r dp rl im)
  go_upto_region 48 with fail
 all_goals as_aux_lemma=>
  obtain ⟨eb,heb,HQ2⟩:=HL.out.eqX
  rw [heb] at HV
  clear heb
  obtain ⟨y0,y1,y2,y3,y4,y5,y6,y7,y8,y9,y10⟩:=XI.at HL.out.y.cells
  have HG2:=fun (xs ys:Array Value) (x y:Operand) W=>guard_X xs ys .eql x y W
  simp only [XI.agg] at HQ2
  have HR1:=HR.out d
  have HR2:=HR.out r
  generalize regB d=rd at*
  generalize regB r=rr at*
  have HR1:=Lib.hid HR1
  have HR2:=Lib.hid HR2
  cases eb
  ·go_wp2_with fail
   go_ret
   exact ⟨by rw [HV.out];rfl,HL.out.fr⟩
  cases rd
  ·go_wp2_with (go_at_call 83;(with_reducible refine (HR1.out _).mono ?_);rintro e w9 ⟨rfl,rfl⟩)
   go_ret
   exact ⟨by rw [HV.out];rfl,HL.out.fr⟩
  ·go_wp2_with (go_at_call 83;(first|(with_reducible refine (HR1.out _).mono ?_)|(with_reducible refine (HR2.out _).mono ?_));rintro e w9 ⟨rfl,rfl⟩)
   go_ret
   exact ⟨by rw [HV.out];cases rr<;>rfl,HL.out.fr⟩
end Go.Proofs.YtfmcmfiebehhiaaGreatDoor

