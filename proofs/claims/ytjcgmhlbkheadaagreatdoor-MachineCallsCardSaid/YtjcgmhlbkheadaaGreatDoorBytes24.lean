/- Arrays of bytes among the arguments, opened (printed by a program). -/
import Derived.Test.YtjcgmhlbkheadaaGreatDoorCore1
import Derived.ProofKit
import Derived.OpenShut
set_option linter.all false
set_option linter.unusedVariables false
set_option linter.unusedSimpArgs false
set_option maxRecDepth 100000
namespace Go.Proofs.YtjcgmhlbkheadaaGreatDoor
open Go.ChangeShapes Go.WideShapes Go.ChangeAt Go.RowKit
theorem byte_ofI{n:Int}(h0:0≤n)(h1:n<256):∃b:UInt8,n=(b.toNat:Int):=⟨UInt8.ofNat n.toNat,by simp;omega⟩
theorem cells_b1:Tryz.prog.cellsOf 5=1:=by kernel_rfl
theorem cells_b2:Tryz.prog.cellsOf 48=2:=by kernel_rfl
theorem open_b2{H:Type}{enc:TypeId×Value→H}{r:Reach}{base bb:Nat}{spare:Nat→Bool}{held:Bool}{w:World}{v:Value}{d:DataW H}{p:List MemPlace}(hv:Value.okWide Tryz.prog w r bb 48 v)(h:DataW.Trod enc Tryz.prog w base spare held 48 v d p):
  ∃b0 b1:UInt8,v= .agg #[.int .u8 b0.toNat, .int .u8 b1.toNat]:=by
 unfold Value.okWide at hv
 rw [Tryz.underlying48] at hv
 obtain ⟨cs,rfl,hsz,_⟩:=hv
 rw [cells_b2] at hsz
 obtain ⟨c0,c1,rfl⟩:∃c0 c1,cs= #[c0,c1]:=by
  match cs,hsz with
  |⟨[c0,c1]⟩,_=>exact ⟨c0,c1,rfl⟩
 obtain ⟨fuel,hf⟩:=h
 obtain ⟨xs,m,rfl,hx,hl,hn,hall⟩:=DataW.trod_array Tryz.underlying48 hf
 have h0:=hall 0 (by omega)
 have h1:=hall 1 (by omega)
 rw [cells_b1] at h0 h1
 simp only [Value.cells,List.drop_zero,Nat.zero_mul,Nat.one_mul,Nat.mul_one,List.take_succ_cons,List.take_zero,List.drop_succ_cons] at h0 h1
 have e0:xs[0]? =some xs[0]:=List.getElem?_eq_getElem (by omega)
 rw [e0] at h0
 obtain ⟨x0,ea0,_,wa0⟩:=DataW.trod_int Tryz.underlying5 h0
 have ba0:=bounds_u8 wa0
 have e1:xs[1]? =some xs[1]:=List.getElem?_eq_getElem (by omega)
 rw [e1] at h1
 obtain ⟨x1,ea1,_,wa1⟩:=DataW.trod_int Tryz.underlying5 h1
 have ba1:=bounds_u8 wa1
 simp at ea0 ea1
 subst ea0 ea1
 obtain ⟨b0,rfl⟩:=byte_ofI (n:=x0) (by omega) (by omega)
 obtain ⟨b1,rfl⟩:=byte_ofI (n:=x1) (by omega) (by omega)
 exact ⟨b0,b1,rfl⟩
theorem cells_b4:Tryz.prog.cellsOf 49=4:=by kernel_rfl
theorem open_b4{H:Type}{enc:TypeId×Value→H}{r:Reach}{base bb:Nat}{spare:Nat→Bool}{held:Bool}{w:World}{v:Value}{d:DataW H}{p:List MemPlace}(hv:Value.okWide Tryz.prog w r bb 49 v)(h:DataW.Trod enc Tryz.prog w base spare held 49 v d p):
  ∃b0 b1 b2 b3:UInt8,v= .agg #[.int .u8 b0.toNat, .int .u8 b1.toNat, .int .u8 b2.toNat, .int .u8 b3.toNat]:=by
 unfold Value.okWide at hv
 rw [Tryz.underlying49] at hv
 obtain ⟨cs,rfl,hsz,_⟩:=hv
 rw [cells_b4] at hsz
 obtain ⟨c0,c1,c2,c3,rfl⟩:∃c0 c1 c2 c3,cs= #[c0,c1,c2,c3]:=by
  match cs,hsz with
  |⟨[c0,c1,c2,c3]⟩,_=>exact ⟨c0,c1,c2,c3,rfl⟩
 obtain ⟨fuel,hf⟩:=h
 obtain ⟨xs,m,rfl,hx,hl,hn,hall⟩:=DataW.trod_array Tryz.underlying49 hf
 have h0:=hall 0 (by omega)
 have h1:=hall 1 (by omega)
 have h2:=hall 2 (by omega)
 have h3:=hall 3 (by omega)
 rw [cells_b1] at h0 h1 h2 h3
 simp only [Value.cells,List.drop_zero,Nat.zero_mul,Nat.one_mul,Nat.mul_one,List.take_succ_cons,List.take_zero,List.drop_succ_cons] at h0 h1 h2 h3
 have e0:xs[0]? =some xs[0]:=List.getElem?_eq_getElem (by omega)
 rw [e0] at h0
 obtain ⟨x0,ea0,_,wa0⟩:=DataW.trod_int Tryz.underlying5 h0
 have ba0:=bounds_u8 wa0
 have e1:xs[1]? =some xs[1]:=List.getElem?_eq_getElem (by omega)
 rw [e1] at h1
 obtain ⟨x1,ea1,_,wa1⟩:=DataW.trod_int Tryz.underlying5 h1
 have ba1:=bounds_u8 wa1
 have e2:xs[2]? =some xs[2]:=List.getElem?_eq_getElem (by omega)
 rw [e2] at h2
 obtain ⟨x2,ea2,_,wa2⟩:=DataW.trod_int Tryz.underlying5 h2
 have ba2:=bounds_u8 wa2
 have e3:xs[3]? =some xs[3]:=List.getElem?_eq_getElem (by omega)
 rw [e3] at h3
 obtain ⟨x3,ea3,_,wa3⟩:=DataW.trod_int Tryz.underlying5 h3
 have ba3:=bounds_u8 wa3
 simp at ea0 ea1 ea2 ea3
 subst ea0 ea1 ea2 ea3
 obtain ⟨b0,rfl⟩:=byte_ofI (n:=x0) (by omega) (by omega)
 obtain ⟨b1,rfl⟩:=byte_ofI (n:=x1) (by omega) (by omega)
 obtain ⟨b2,rfl⟩:=byte_ofI (n:=x2) (by omega) (by omega)
 obtain ⟨b3,rfl⟩:=byte_ofI (n:=x3) (by omega) (by omega)
 exact ⟨b0,b1,b2,b3,rfl⟩
end Go.Proofs.YtjcgmhlbkheadaaGreatDoor
