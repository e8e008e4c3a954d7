/- Two numbers of 64 bits among the arguments, opened. -/
import Derived.Test.YtkjhfnfneopopaaGreatDoorCore1
import Derived.ProofKit
import Derived.OpenShut
set_option linter.all false
set_option linter.unusedVariables false
set_option linter.unusedSimpArgs false
set_option maxRecDepth 100000
namespace Go.Proofs.YtkjhfnfneopopaaGreatDoor
open Go.ChangeShapes Go.WideShapes Go.ChangeAt Go.RowKit
theorem cells_u1:Tryz.prog.cellsOf 36=1:=by kernel_rfl
theorem cells_u2:Tryz.prog.cellsOf 58=2:=by kernel_rfl
theorem open_u2{H:Type}{enc:TypeId×Value→H}{r:Reach}{base bb:Nat}{spare:Nat→Bool}{held:Bool}{w:World}{v:Value}{d:DataW H}{p:List MemPlace}(hv:Value.okWide Tryz.prog w r bb 58 v)(h:DataW.Trod enc Tryz.prog w base spare held 58 v d p):
  ∃a b:Nat,v= .agg #[.int .u64 a, .int .u64 b]∧a<18446744073709551616∧b<18446744073709551616:=by
 unfold Value.okWide at hv
 rw [Tryz.underlying58] at hv
 obtain ⟨cs,rfl,hsz,_⟩:=hv
 rw [cells_u2] at hsz
 obtain ⟨c0,c1,rfl⟩:∃c0 c1,cs= #[c0,c1]:=by
  match cs,hsz with
  |⟨[c0,c1]⟩,_=>exact ⟨c0,c1,rfl⟩
 obtain ⟨fuel,hf⟩:=h
 obtain ⟨xs,m,rfl,hx,hl,hn,hall⟩:=DataW.trod_array Tryz.underlying58 hf
 have h0:=hall 0 (by omega)
 have h1:=hall 1 (by omega)
 rw [cells_u1] at h0 h1
 simp only [Value.cells,List.drop_zero,Nat.zero_mul,Nat.one_mul,Nat.mul_one,List.take_succ_cons,List.take_zero,List.drop_succ_cons] at h0 h1
 have e0:xs[0]? =some xs[0]:=List.getElem?_eq_getElem (by omega)
 rw [e0] at h0
 obtain ⟨x0,ea0,_,wa0⟩:=DataW.trod_int Tryz.underlying36 h0
 have ba0:=bounds_u64 wa0
 have e1:xs[1]? =some xs[1]:=List.getElem?_eq_getElem (by omega)
 rw [e1] at h1
 obtain ⟨x1,ea1,_,wa1⟩:=DataW.trod_int Tryz.underlying36 h1
 have ba1:=bounds_u64 wa1
 simp at ea0 ea1
 subst ea0 ea1
 obtain ⟨a,rfl⟩:=Int.eq_ofNat_of_zero_le (show 0≤x0 by omega)
 obtain ⟨b,rfl⟩:=Int.eq_ofNat_of_zero_le (show 0≤x1 by omega)
 exact ⟨a,b,rfl,by omega,by omega⟩
end Go.Proofs.YtkjhfnfneopopaaGreatDoor
