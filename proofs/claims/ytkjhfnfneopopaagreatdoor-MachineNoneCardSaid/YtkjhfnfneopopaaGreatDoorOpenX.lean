/- An instruction of the machine among the arguments, opened. (printed by mkopen.py) -/
import Derived.Test.YtkjhfnfneopopaaGreatDoorCore1
import Derived.ProofKit
import Derived.OpenShut
set_option linter.all false
set_option linter.unusedVariables false
set_option linter.unusedSimpArgs false
set_option maxRecDepth 100000
namespace Go.Proofs.YtkjhfnfneopopaaGreatDoor
open Go.ChangeShapes Go.WideShapes Go.ChangeAt Go.RowKit
theorem Tryz.cells_x:Tryz.prog.cellsOf 23=11:=by kernel_rfl
theorem Tryz.cells_x_int:Tryz.prog.cellsOf 3=1:=by kernel_rfl
theorem Tryz.cells_x_bool:Tryz.prog.cellsOf 4=1:=by kernel_rfl
theorem Tryz.cells_x_int32:Tryz.prog.cellsOf 21=1:=by kernel_rfl
theorem Tryz.cells_x_int64:Tryz.prog.cellsOf 2=1:=by kernel_rfl
theorem open_x{H:Type}{enc:TypeId×Value→H}{r:Reach}{base b0:Nat}{spare:Nat→Bool}{held:Bool}{w:World}{v:Value}{d:DataW H}{p:List MemPlace}
  (hv:Value.okWide Tryz.prog w r b0 23 v) (h:DataW.Trod enc Tryz.prog w base spare held 23 v d p):
  ∃(ykind:Int) (yalu:Int) (ycond:Int) (ysize:Int) (ywide:Bool) (yshort:Bool) (ydst:Int) (ysrc:Int) (ydisp:Int) (yrel:Int) (yimm:Int),v= .agg #[.int .i64 ykind, .int .i64 yalu, .int .i64 ycond, .int .i64 ysize, .bool ywide, .bool yshort, .int .i64 ydst, .int .i64 ysrc, .int .i32 ydisp, .int .i32 yrel, .int .i64 yimm]∧-9223372036854775808≤ykind∧ykind≤9223372036854775807∧-9223372036854775808≤yalu∧yalu≤9223372036854775807∧-9223372036854775808≤ycond∧ycond≤9223372036854775807∧-9223372036854775808≤ysize∧ysize≤9223372036854775807∧-9223372036854775808≤ydst∧ydst≤9223372036854775807∧-9223372036854775808≤ysrc∧ysrc≤9223372036854775807∧-2147483648≤ydisp∧ydisp≤2147483647∧-2147483648≤yrel∧yrel≤2147483647∧-9223372036854775808≤yimm∧yimm≤9223372036854775807:=by
 unfold Value.okWide at hv
 rw [Tryz.underlying23] at hv
 obtain ⟨cs,rfl,hsz,_⟩:=hv
 rw [Tryz.cells_x] at hsz
 obtain ⟨c0,c1,c2,c3,c4,c5,c6,c7,c8,c9,c10,rfl⟩:∃a0 a1 a2 a3 a4 a5 a6 a7 a8 a9 a10,cs= #[a0,a1,a2,a3,a4,a5,a6,a7,a8,a9,a10]:=by
  match cs,hsz with
  |⟨[a0,a1,a2,a3,a4,a5,a6,a7,a8,a9,a10]⟩,_=>exact ⟨a0,a1,a2,a3,a4,a5,a6,a7,a8,a9,a10,rfl⟩
 obtain ⟨fuel,hf⟩:=h
 obtain ⟨xs,m,rfl,hx,hl,hn,hall⟩:=DataW.trod_struct Tryz.underlying23 hf
 have h0:=hall 0 _ rfl
 have h1:=hall 1 _ rfl
 have h2:=hall 2 _ rfl
 have h3:=hall 3 _ rfl
 have h4:=hall 4 _ rfl
 have h5:=hall 5 _ rfl
 have h6:=hall 6 _ rfl
 have h7:=hall 7 _ rfl
 have h8:=hall 8 _ rfl
 have h9:=hall 9 _ rfl
 have h10:=hall 10 _ rfl
 simp only [List.getElem_toArray,List.getElem_cons_zero,List.getElem_cons_succ,Tryz.cells_x_int,Tryz.cells_x_bool,Tryz.cells_x_int32,Tryz.cells_x_int64,Value.cells,List.drop_zero,List.take_succ_cons,List.take_zero,List.drop_succ_cons] at h0 h1 h2 h3 h4 h5 h6 h7 h8 h9 h10
 have hnn:xs.length=11:=hn
 have e0:xs[0]? =some xs[0]:=List.getElem?_eq_getElem (by omega)
 rw [e0] at h0
 have e1:xs[1]? =some xs[1]:=List.getElem?_eq_getElem (by omega)
 rw [e1] at h1
 have e2:xs[2]? =some xs[2]:=List.getElem?_eq_getElem (by omega)
 rw [e2] at h2
 have e3:xs[3]? =some xs[3]:=List.getElem?_eq_getElem (by omega)
 rw [e3] at h3
 have e4:xs[4]? =some xs[4]:=List.getElem?_eq_getElem (by omega)
 rw [e4] at h4
 have e5:xs[5]? =some xs[5]:=List.getElem?_eq_getElem (by omega)
 rw [e5] at h5
 have e6:xs[6]? =some xs[6]:=List.getElem?_eq_getElem (by omega)
 rw [e6] at h6
 have e7:xs[7]? =some xs[7]:=List.getElem?_eq_getElem (by omega)
 rw [e7] at h7
 have e8:xs[8]? =some xs[8]:=List.getElem?_eq_getElem (by omega)
 rw [e8] at h8
 have e9:xs[9]? =some xs[9]:=List.getElem?_eq_getElem (by omega)
 rw [e9] at h9
 have e10:xs[10]? =some xs[10]:=List.getElem?_eq_getElem (by omega)
 rw [e10] at h10
 obtain ⟨x0,ea0,_,wa0⟩:=DataW.trod_int Tryz.underlying3 h0
 have ba0:=bounds_i64 wa0
 obtain ⟨x1,ea1,_,wa1⟩:=DataW.trod_int Tryz.underlying3 h1
 have ba1:=bounds_i64 wa1
 obtain ⟨x2,ea2,_,wa2⟩:=DataW.trod_int Tryz.underlying3 h2
 have ba2:=bounds_i64 wa2
 obtain ⟨x3,ea3,_,wa3⟩:=DataW.trod_int Tryz.underlying3 h3
 have ba3:=bounds_i64 wa3
 obtain ⟨x4,ea4,_⟩:=DataW.trod_bool Tryz.underlying4 h4
 obtain ⟨x5,ea5,_⟩:=DataW.trod_bool Tryz.underlying4 h5
 obtain ⟨x6,ea6,_,wa6⟩:=DataW.trod_int Tryz.underlying3 h6
 have ba6:=bounds_i64 wa6
 obtain ⟨x7,ea7,_,wa7⟩:=DataW.trod_int Tryz.underlying3 h7
 have ba7:=bounds_i64 wa7
 obtain ⟨x8,ea8,_,wa8⟩:=DataW.trod_int Tryz.underlying21 h8
 have ba8:=bounds_i32 wa8
 obtain ⟨x9,ea9,_,wa9⟩:=DataW.trod_int Tryz.underlying21 h9
 have ba9:=bounds_i32 wa9
 obtain ⟨x10,ea10,_,wa10⟩:=DataW.trod_int Tryz.underlying2 h10
 have ba10:=bounds_i64 wa10
 simp at ea0 ea1 ea2 ea3 ea4 ea5 ea6 ea7 ea8 ea9 ea10
 subst ea0 ea1 ea2 ea3 ea4 ea5 ea6 ea7 ea8 ea9 ea10
 exact ⟨x0,x1,x2,x3,x4,x5,x6,x7,x8,x9,x10,rfl,by omega,by omega,by omega,by omega,by omega,by omega,by omega,by omega,by omega,by omega,by omega,by omega,by omega,by omega,by omega,by omega,by omega,by omega⟩
end Go.Proofs.YtkjhfnfneopopaaGreatDoor
