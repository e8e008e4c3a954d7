/- How code is run (a window, a script, how many steps), among the arguments, opened. -/
import Derived.Test.YtfmcmfiebehhiaaGreatDoorCore9
set_option linter.all false
set_option linter.unusedVariables false
set_option linter.unusedSimpArgs false
set_option maxRecDepth 100000
namespace Go.Proofs.YtfmcmfiebehhiaaGreatDoor
open Go.Proofs.Tryz
open Go.ChangeShapes Go.WideShapes Go.ChangeAt Go.RowKit Go.Deep
theorem cells_use:prog.cellsOf 24=3:=by kernel_rfl
theorem cells_use_int:prog.cellsOf 3=1:=by kernel_rfl
theorem cells_use_b:prog.cellsOf 22=1:=by kernel_rfl
theorem open_use{H:Type}{enc:TypeId×Value→H}{r:Reach}{base b0:Nat}{spare:Nat→Bool}{held:Bool}{w:World}{v:Value}{d:DataW H}{p:List MemPlace}
  (hv:Value.okWide prog w r b0 24 v) (h:DataW.Trod enc prog w base spare held 24 v d p):
  ∃(x:Int) (a:Option Addr) (n c:Nat) (y:Int),v= .agg #[.int .i64 x, .slice a n c, .int .i64 y]:=by
 unfold Value.okWide at hv
 rw [underlying24] at hv
 obtain ⟨cs,rfl,hsz,_⟩:=hv
 rw [cells_use] at hsz
 obtain ⟨c0,c1,c2,rfl⟩:∃a0 a1 a2,cs= #[a0,a1,a2]:=by
  match cs,hsz with
  |⟨[a0,a1,a2]⟩,_=>exact ⟨a0,a1,a2,rfl⟩
 obtain ⟨fuel,hf⟩:=h
 obtain ⟨xs,m,rfl,hx,hl,hn,hall⟩:=DataW.trod_struct underlying24 hf
 have h0:=hall 0 _ rfl
 have h1:=hall 1 _ rfl
 have h2:=hall 2 _ rfl
 simp only [List.getElem_toArray,List.getElem_cons_zero,List.getElem_cons_succ,cells_use_int,cells_use_b,Value.cells,List.drop_zero,List.take_succ_cons,List.take_zero,List.drop_succ_cons] at h0 h1 h2
 have hnn:xs.length=3:=hn
 have e0:xs[0]? =some xs[0]:=List.getElem?_eq_getElem (by omega)
 rw [e0] at h0
 have e1:xs[1]? =some xs[1]:=List.getElem?_eq_getElem (by omega)
 rw [e1] at h1
 have e2:xs[2]? =some xs[2]:=List.getElem?_eq_getElem (by omega)
 rw [e2] at h2
 obtain ⟨x0,ea0,_,wa0⟩:=DataW.trod_int underlying3 h0
 obtain ⟨x2,ea2,_,wa2⟩:=DataW.trod_int underlying3 h2
 rcases open_slice underlying22 h1 with ⟨h3,_⟩|⟨a,len,cap,m,n,D,Pl,h3,_⟩
 ·simp at ea0 ea2 h3
  subst ea0 ea2 h3
  exact ⟨x0,none,0,0,x2,rfl⟩
 ·simp at ea0 ea2 h3
  subst ea0 ea2 h3
  exact ⟨x0,_,_,_,x2,rfl⟩
end Go.Proofs.YtfmcmfiebehhiaaGreatDoor

