/- firewalllaw14.SpecNone: in a world that is none nothing runs. -/
import Derived.Test.YtfmcmfiebehhiaaGreatDoorCore45
set_option linter.all false
set_option linter.unusedVariables false
set_option linter.unusedSimpArgs false
set_option maxRecDepth 100000
set_option maxHeartbeats 8000000
namespace Go.Proofs.YtfmcmfiebehhiaaGreatDoor
open Go.Proofs.Tryz
open Go.RowKit
theorem ugreat_any(x y:Int)(a:Option Addr)(n c:Nat)(w:World):Calls prog 6 #[.agg #[.int .i64 x, .slice a n c, .int .i64 y]] w fun e w'=>e= .returned (.bool (decide ((200:Int)<(n:Int))))∧Fr No w w':=by
 have HB:Hid (∀t,Fr No w (w.alloc (.cells #[.int .i64 x, .slice a n c, .int .i64 y] t))):=Lib.hid fun t=>fr_alloc _ _
 go_enter func6,ntmps6
 go_wp2_with fail
 go_ret
 exact ⟨rfl,HB.out _⟩
theorem snone_walk(code:List UInt8)(x y:Int)(sa:Option Addr)(n c:Nat)(w:World)(hm:MachAt w):
  Calls prog 3 #[.string (bA' code), .agg #[.int .i64 x, .slice sa n c, .int .i64 y]] w fun e w'=>e= .returned (.bool true)∧Fr No w w':=by
 have HR:Hid (∀W,Fr No w W→Calls prog 7 #[] W fun e w'=>e= .returned (.bool true)∧Fr No W w'):=fun W hW=>guessed_any W (hm.fr hW)
 clear hm
 have HE:Hid (∀t,Fr No w (w.alloc (.cells #[.int .i64 x, .slice sa n c, .int .i64 y] t))∧CellsAt (w.alloc (.cells #[.int .i64 x, .slice sa n c, .int .i64 y] t)) w.heap.size 0 [.int .i64 x, .slice sa n c, .int .i64 y]):=fun t=>⟨fr_alloc _ _,CellsAt.new w _ t⟩
 have HRN:Hid (∀q W,NW q W→Calls prog 8 #[q, .string (bA' code), .int .i64 x, .slice sa n c, .int .i64 y] W fun e w'=>e= .returned (.tuple #[.agg #[.int .u64 0, .int .i64 0], .agg #[.slice none 0 0, .int .i64 0], .int .i64 1])∧Fr No W w'):=Lib.hid fun q W h=>spec_none q code x y sa n c W h
 have HG:Hid (∀W,Calls prog 6 #[.agg #[.int .i64 x, .slice sa n c, .int .i64 y]] W fun e w'=>e= .returned (.bool (decide ((200:Int)<(n:Int))))∧Fr No W w'):=Lib.hid fun W=>ugreat_any x y sa n c W
 have sz:(bA' code).size=code.length:=sizeJ code
 go_enter func3,ntmps3
 go_upto_region 1 with fail
 refine wp_box (fun W=>Hid (Fr No w W∧CellsAt W w.heap.size 0 [.int .i64 x, .slice sa n c, .int .i64 y])) (by exact Lib.hid (HE.out _)) ?_
 clear HE
 intro W1 HL
 have HU:Hid (∀W,Fr No W1 W→W.cell? ⟨w.heap.size,0,none⟩=some (.int .i64 x)∧W.cell? ⟨w.heap.size,1,none⟩=some (.slice sa n c)∧W.cell? ⟨w.heap.size,2,none⟩=some (.int .i64 y)):=Lib.hid fun W hW=>by
  have h:=hW.cells HL.out.2 id
  exact ⟨h 0 _ rfl,h 1 _ rfl,h 2 _ rfl⟩
 obtain ⟨u0,u1,u2⟩:=HU.out W1 (Fr.refl _ _)
 by_cases hl:(code.length:Int)>500
 ·have z1:decide ((code.length:Int)>500)=true:=by simpa using hl
  clear hl
  go_wp2_with (go_at_call 7;(with_reducible refine (HR.out _ HL.out.1).mono ?_);rintro e w1 ⟨rfl,hf1⟩)
  go_ret
  exact ⟨rfl,HL.out.1.trans hf1⟩
 ·have z1:decide ((code.length:Int)>500)=false:=by simpa using hl
  clear hl
  by_cases hg:(200:Int)<(n:Int)
  ·have z2:decide ((200:Int)<(n:Int))=true:=by simpa using hg
   rw [z2] at HG
   clear hg z2
   go_wp2_with (first
    |(go_at_call 6;(with_reducible refine (HG.out _).mono ?_);rintro e w1 ⟨rfl,hf1⟩)
    |(go_at_call 7;(with_reducible refine (HR.out _ (HL.out.1.trans hf1)).mono ?_);rintro e2 w2 ⟨rfl,hf2⟩))
   go_ret
   exact ⟨rfl,(HL.out.1.trans hf1).trans hf2⟩
  ·have z2:decide ((200:Int)<(n:Int))=false:=by simpa using hg
   rw [z2] at HG
   clear hg z2
   go_upto_region 3 with (go_at_call 6;(with_reducible refine (HG.out _).mono ?_);rintro e w2 ⟨rfl,hf2⟩)
   have HL2:=Lib.hid (HL.out.1.trans hf2)
   have HU2:Hid (∀W,Fr No w2 W→W.cell? ⟨w.heap.size,0,none⟩=some (.int .i64 x)∧W.cell? ⟨w.heap.size,1,none⟩=some (.slice sa n c)∧W.cell? ⟨w.heap.size,2,none⟩=some (.int .i64 y)):=Lib.hid fun W hW=>HU.out W (hf2.trans hW)
   clear HL HU HG hf2 u0 u1 u2
   have HNB:Hid (∀W,Fr No (w2.alloc (.cells #[.bool false, .slice none 0 0, .int .i64 0, .slice none 0 0, .pointer none, .pointer none, .slice none 0 0] 35)) W→NW (.pointer (some ⟨w2.heap.size,0,none⟩)) W∧Fr No w2 W):=fun W hW=>⟨.inr ⟨_,rfl,hW.cell (CellsAt.new w2 [.bool false, .slice none 0 0, .int .i64 0, .slice none 0 0, .pointer none, .pointer none, .slice none 0 0] _ 0 _ rfl) id⟩,(fr_alloc _ _).trans hW⟩
   go_upto_region 4 with fail
   obtain ⟨W3,hW3⟩:∃W3,W3=(w2.alloc (.cells #[.bool false, .slice none 0 0, .int .i64 0, .slice none 0 0, .pointer none, .pointer none, .slice none 0 0] 35)):=⟨_,rfl⟩
   rw [←hW3] at HNB ⊢
   clear hW3
   generalize hB:w2.heap.size=B at*
   clear hB
   go_loopw [21] (fun s wr=>∃i:Nat,i≤2∧s= .int .i64 i∧Hid (Fr No W3 wr)) (fun s _=>2-(intOf s).toNat)
   case atStart=>exact ⟨0,Nat.zero_le _,rfl,Fr.refl _ _⟩
   case round=>
    obtain ⟨i,hi,rfl,HF⟩:=hrel
    by_cases hlt:i<2
    ·have z3:decide ((i:Int)<2)=true:=by simp;omega
     go_upto_region 5 with fail
     go_cut [6] from 23 to 23 (fun s wx=>Hid (NW s wx)∧Hid (Fr No W3 wx))
     case first=>
      have i0:=idxN0
      have i1:=idxN1
      obtain rfl|rfl:i=0∨i=1:=by omega
      ·go_wp2_with fail
       go_meet
       exact ⟨.inl rfl,HF⟩
      ·go_wp2_with fail
       go_meet
       exact ⟨(HNB.out _ HF.out).1,HF⟩
     case rest=>
      obtain ⟨HQ,HF2⟩:=hcut
      obtain ⟨u0,u1,u2⟩:=HU2.out wc (HNB.out _ HF2.out).2
      have n2:=neq_zO
      have n4:=fun (xs ys:Array Value) (x y:Operand) W=>guard_out xs ys .neq x y W
      go_upto_region 7 with (go_at_call 8;(with_reducible refine (HRN.out _ _ HQ.out).mono ?_);rintro e3 w3 ⟨rfl,hf3⟩)
      have HT3:Hid (∀t1 t2,((w3.alloc (.cells #[.int .u64 0, .int .i64 0] t1)).alloc (.cells #[.slice none 0 0, .int .i64 0] t2)).cell? ⟨w3.heap.size,0,none⟩=some (.int .u64 0)∧((w3.alloc (.cells #[.int .u64 0, .int .i64 0] t1)).alloc (.cells #[.slice none 0 0, .int .i64 0] t2)).cell? ⟨w3.heap.size,1,none⟩=some (.int .i64 0)∧((w3.alloc (.cells #[.int .u64 0, .int .i64 0] t1)).alloc (.cells #[.slice none 0 0, .int .i64 0] t2)).cell? ⟨w3.heap.size+1,0,none⟩=some (.slice none 0 0)∧((w3.alloc (.cells #[.int .u64 0, .int .i64 0] t1)).alloc (.cells #[.slice none 0 0, .int .i64 0] t2)).cell? ⟨w3.heap.size+1,1,none⟩=some (.int .i64 0)∧Fr No w3 ((w3.alloc (.cells #[.int .u64 0, .int .i64 0] t1)).alloc (.cells #[.slice none 0 0, .int .i64 0] t2))):=Lib.hid fun t1 t2=>by
       have h:=RB.start w3 t1 t2
       obtain ⟨a0,a1⟩:=h.1.out.at
       exact ⟨a0,a1,h.1.tld.c0,h.1.tld.c1,h.2⟩
      refine wp_box (fun W=>Hid (W.cell? ⟨w3.heap.size,0,none⟩=some (.int .u64 0)∧W.cell? ⟨w3.heap.size,1,none⟩=some (.int .i64 0)∧W.cell? ⟨w3.heap.size+1,0,none⟩=some (.slice none 0 0)∧W.cell? ⟨w3.heap.size+1,1,none⟩=some (.int .i64 0)∧Fr No w3 W)) (by exact Lib.hid (HT3.out _ _)) ?_
      clear HT3
      intro W6 H6
      obtain ⟨a0,a1,a2,a3,hf6⟩:=H6.out
      have HF6:=Lib.hid ((HF2.out.trans hf3).trans hf6)
      clear H6 hf3 hf6 u0 u1 u2
      go_wp2_with fail
      go_roundw
      case rel=>exact ⟨i+1,by omega,by go_num,HF6⟩
      case measure=>simp [intOf]<;>omega
    ·obtain rfl:i=2:=by omega
     have z3:decide (((2:Nat):Int)<2)=false:=by decide
     go_wp2_with (go_at_call 7;(with_reducible refine (HR.out _ (HL2.out.trans (HNB.out _ HF.out).2)).mono ?_);rintro e w5 ⟨rfl,hf5⟩)
     go_ret
     exact ⟨rfl,(HL2.out.trans (HNB.out _ HF.out).2).trans hf5⟩
end Go.Proofs.YtfmcmfiebehhiaaGreatDoor

