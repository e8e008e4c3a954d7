/- A slice of uint64 among the arguments, opened, with its numbers' range. -/
import Derived.Test.YtjcgmhlbkheadaaGreatDoorCore10
set_option linter.all false
set_option linter.unusedVariables false
set_option linter.unusedSimpArgs false
set_option maxRecDepth 100000
namespace Go.Proofs.YtjcgmhlbkheadaaGreatDoor
open Go.ChangeShapes Go.WideShapes Go.ChangeAt Go.RowKit Go.Deep
theorem cells_dq64:Tryz.prog.cellsOf 25=1:=by kernel_rfl
theorem open_u64q{H:Type}{enc:TypeId×Value→H}{base:Nat}{spare:Nat→Bool}{held:Bool}{w:World}{v:Value}{d:DataW H}{p:List MemPlace}
  (hv1:v.cells.toList= [v]) (h:DataW.Trod enc Tryz.prog w base spare held 22 v d p):
  ∃(a:Option Addr) (n c:Nat) (l:List Nat),v= .slice a n c∧l.length=n∧(∀x∈l,x<18446744073709551616)∧∃g o,(0<n→a=some ⟨g,o,none⟩∧CellsAt w g o (l.map fun x:Nat=>Value.int .u64 (x:Int))):=by
 obtain ⟨fuel,hf⟩:=h
 rw [hv1] at hf
 rcases open_slice Tryz.underlying22 hf with ⟨h0,_⟩|⟨a,len,cap,m,n,D,Pl,h0,hb,hl,hm,hmm,hx,hi⟩
 ·simp at h0
  subst h0
  exact ⟨none,0,0, [],rfl,rfl,fun x hx=>absurd hx List.not_mem_nil,0,0,fun h=>absurd h (Nat.lt_irrefl 0)⟩
 ·simp at h0
  subst h0
  have hlm:len≤m:=by rw [hmm];split<;>omega
  obtain ⟨l,h1,h2,h3⟩:=rows_open (w:=w) (a:=a) 1 (fun x:Nat=> [Value.int .u64 (x:Int)]) (fun x=>x<18446744073709551616) (fun x=>rfl) len (fun i hil=>by
   obtain ⟨cs',hc,ht⟩:=hi i (by omega)
   rw [cells_dq64] at hc
   obtain ⟨_,hcl,hat⟩:=World.cells?_some hc
   obtain ⟨c0,rfl⟩:∃a,cs'= [a]:=by
    match cs',hcl with
    | [a],_=>exact ⟨a,rfl⟩
   obtain ⟨x0,ea,_,wa⟩:=DataW.trod_int Tryz.underlying25 ht
   have ba:=bounds_u64 wa
   simp at ea
   subst ea
   obtain ⟨y,rfl⟩:=Int.eq_ofNat_of_zero_le (show 0≤x0 by omega)
   refine ⟨y,by omega,fun c u hcu=> ?_⟩
   have hcc:=hat c (by have:=(List.getElem?_eq_some_iff.1 hcu).1;simpa using this)
   rw [Deep.add_add] at hcc
   rw [hcc,←hcu])
  have hfl:l.flatMap (fun x:Nat=> [Value.int .u64 (x:Int)])=l.map fun x:Nat=>Value.int .u64 (x:Int):=by
   rw [List.map_eq_flatMap]
  rw [hfl] at h3
  rcases Nat.eq_zero_or_pos len with h0|h0
  ·exact ⟨some a,len,cap,l,rfl,h1,h2,0,0,fun h=>by omega⟩
  ·have h00:(l.map fun x:Nat=>Value.int .u64 (x:Int))[0]? =some (.int .u64 ((l[0]'(by omega):Nat):Int)):=by
    rw [List.getElem?_map,List.getElem?_eq_getElem (by omega)];rfl
   obtain ⟨b,off,spot⟩:=a
   have hspot:spot=none:=by simpa [Addr.add] using World.cell?_spot (h3 0 _ h00)
   subst hspot
   refine ⟨some ⟨b,off,none⟩,len,cap,l,rfl,h1,h2,b,off,fun _=>⟨rfl,fun j u hj=> ?_⟩⟩
   have h5:=h3 j u hj
   by_cases j0:j=0
   ·subst j0;simpa [Addr.add] using h5
   ·simpa [Addr.add,j0] using h5
end Go.Proofs.YtjcgmhlbkheadaaGreatDoor
