/- slices.Contains over a row of ints. package codec: the forms' cells; opcode. (printed by mkcq8.py) -/
import Derived.Test.YtfmcmfiebehhiaaGreatDoorCore16
import Derived.Test.YtfmcmfiebehhiaaGreatDoorCore9
import Derived.BigRegion
set_option linter.all false
set_option linter.unusedVariables false
set_option linter.unusedSimpArgs false
set_option maxRecDepth 100000
set_option maxHeartbeats 2000000
namespace Go.Proofs.YtfmcmfiebehhiaaGreatDoor
open Go.Proofs.Tryz
open Go.RowKit
def idxJ:Option Nat→Int
 |some k=>k
 |none=> -1
def geJ:Option Nat→Bool
 |some _=>true
 |none=>false
theorem index_atJ(L:List Int)(z x k)(hx:L[k]? =some z)(h:∀(j:Nat) y,j<k→L[j]? =some y→y≠x)(e:z=x):L.findIdx? (·==x)=some k:=by
 rw [List.findIdx?_eq_some_iff_getElem]
 obtain ⟨hk,hz⟩:=List.getElem?_eq_some_iff.1 hx
 refine ⟨hk,by rw [hz,e];simp,fun j hj hb=> ?_⟩
 have:=h j _ hj (List.getElem?_eq_getElem (by omega))
 simp at hb
 exact this hb
theorem i64J_cell{w:World}{g off}{L:List Int}(h:CellsAt w g off (L.map (Value.int .i64))){k z}(hz:L[k]? =some z):w.cell? ⟨g,off+k,none⟩=some (.int .i64 z):=
 h k _ (by rw [List.getElem?_map,hz];rfl)
theorem index_intsJ(L:List Int)(g off n c x w)(hc:CellsAt w g off (L.map (Value.int .i64)))(hn:L.length=n)(hm:n≤1000000):
  Calls prog 141 #[.slice (some ⟨g,off,none⟩) n c, .int .i64 x] w fun e w'=>e= .returned (.int .i64 (idxJ (L.findIdx? (·==x))))∧Fr No w w':=by
 have HC:=Lib.hid hc
 have HN:=Lib.hid hn
 clear hc hn
 go_enter func141,ntmps141
 go_wp2_with fail
 go_loopw [8] (fun i wr=>∃k:Nat,k≤n∧i= .int .i64 k∧Hid (Fr No w wr)∧Hid (∀(j:Nat) z,j<k→L[j]? =some z→z≠x)) (fun i _=>n-(intOf i).toNat)
 case atStart=>exact ⟨0,Nat.zero_le _,rfl,Fr.refl _ _,fun j _ h=>absurd h (Nat.not_lt_zero _)⟩
 case round=>
  obtain ⟨k,hk,rfl,HF,HJ⟩:=hrel
  by_cases hlt:k<n
  ·obtain ⟨z,hz⟩:∃z,L[k]? =some z:=⟨L[k]'(by rw [HN.out];exact hlt),List.getElem?_eq_getElem _⟩
   have k0:=i64J_cell (HF.out.cells HC.out id) hz
   have HX:=Lib.hid hz
   clear hz
   by_cases hx:z=x
   ·have HFI:Hid (L.findIdx? (·==x)=some k):=index_atJ L z x k HX.out HJ.out hx
    have q:(x==z)=true:=by rw [beq_iff_eq];exact hx.symm
    have q':(z==x)=true:=by rw [beq_iff_eq];exact hx
    clear hx
    go_wp2_with fail
    go_ret
    exact ⟨by rw [HFI.out];rfl,HF.out⟩
   ·have HJ2:Hid (∀(j:Nat) y,j<k+1→L[j]? =some y→y≠x):=fun j y hj hy=>by
     by_cases e:j=k
     ·subst e
      rw [HX.out] at hy
      obtain rfl:=Option.some.inj hy
      exact hx
     ·exact HJ.out j y (by omega) hy
    have q:(x==z)=false:=by rw [beq_eq_false_iff_ne];exact Ne.symm hx
    have q':(z==x)=false:=by rw [beq_eq_false_iff_ne];exact hx
    clear hx
    go_wp2_with fail
    go_roundw
    case rel=>exact ⟨k+1,by omega,by go_num,HF.out,HJ2⟩
    case measure=>simp [intOf]<;>omega
  ·obtain rfl:k=n:=by omega
   have HFI:Hid (L.findIdx? (·==x)=none):=Lib.hid (by
    rw [List.findIdx?_eq_none_iff]
    intro y hy
    obtain ⟨j,hj,rfl⟩:=List.getElem_of_mem hy
    have:=HJ.out j _ (by rw [←HN.out];exact hj) (List.getElem?_eq_getElem hj)
    simpa using this)
   go_wp2_with fail
   go_ret
   exact ⟨by rw [HFI.out];rfl,HF.out⟩
theorem contains_idxJ(L:List Int)(x):L.contains x=geJ (L.findIdx? (·==x)):=by
 cases h:L.findIdx? (·==x) with
 |none=>
  rw [List.findIdx?_eq_none_iff] at h
  cases hc:L.contains x with
  |false=>rfl
  |true=>
   rw [List.contains_iff_mem] at hc
   have:=h x hc
   simp at this
 |some k=>
  rw [List.findIdx?_eq_some_iff_getElem] at h
  obtain ⟨hk,h1, -⟩:=h
  have:L[k]=x:=by simpa using h1
  show _=true
  rw [List.contains_iff_mem,←this]
  exact List.getElem_mem hk
theorem contains_intsJ(L:List Int)(g off n c x w)(hc:CellsAt w g off (L.map (Value.int .i64)))(hn:L.length=n)(hm:n≤1000000):
  Calls prog 110 #[.slice (some ⟨g,off,none⟩) n c, .int .i64 x] w fun e w'=>e= .returned (.bool (L.contains x))∧Fr No w w':=by
 have H:=Lib.hid (index_intsJ L g off n c x w hc hn hm)
 rw [contains_idxJ]
 obtain ⟨o,ho⟩:∃o,L.findIdx? (·==x)=o:=⟨_,rfl⟩
 rw [ho] at H ⊢
 clear ho hc hn hm
 cases o with
 |none=>
  have H1:Hid (Calls prog 141 #[.slice (some ⟨g,off,none⟩) n c, .int .i64 x] w fun e w'=>e= .returned (.int .i64 (-1))∧Fr No w w'):=H.out
  go_enter func110,ntmps110
  go_wp2_with (go_at_call 141;(with_reducible refine (H1.out).mono ?_);rintro e w' ⟨rfl,hf⟩)
  go_ret
  exact ⟨rfl,hf⟩
 |some k=>
  have H1:Hid (Calls prog 141 #[.slice (some ⟨g,off,none⟩) n c, .int .i64 x] w fun e w'=>e= .returned (.int .i64 (k:Int))∧Fr No w w'):=H.out
  have g:(0:Int)≤(k:Int):=by omega
  go_enter func110,ntmps110
  go_wp2_with (go_at_call 141;(with_reducible refine (H1.out).mono ?_);rintro e w' ⟨rfl,hf⟩)
  go_ret
  exact ⟨rfl,hf⟩
theorem MachAt.inConds{w:World}(h:MachAt w):∃g off cap,w.cell? ⟨3,0,none⟩=some (.slice (some ⟨g,off,none⟩) 10 cap)∧∀w' (x:Int),Fr No w w'→
  Calls prog 110 #[.slice (some ⟨g,off,none⟩) 10 cap, .int .i64 x] w' fun e w''=>e= .returned (.bool (condsL.contains x))∧Fr No w' w'':=by
 obtain ⟨g,off,cap,hc,hcs⟩:=h.conds
 exact ⟨g,off,cap,hc,fun w' x hf=>contains_intsJ condsL g off 10 cap x w' (hf.cells hcs id) rfl (by decide)⟩
theorem one_c1(W:World)(o)(x:Int)(h0:0≤x)(h1:x<256):(convert 22 9 (.slice (some ⟨W.heap.size+1,0,none⟩) 1 1)).run prog ((W.alloc o).alloc (.cells #[.int .u8 x] 5))= .ok (.string (bA' [byteM x])) ((W.alloc o).alloc (.cells #[.int .u8 x] 5)):=by
 have h:=one_byte1 W o x h0 h1
 rw [show UInt8.ofNat x.toNat=byteM x by unfold byteM;rw [Int.emod_eq_of_lt h0 h1]] at h
 exact h
theorem one_d1(W:World)(o x y)(hx:x=y)(h0:0≤y)(h1:y<256):(convert 22 9 (.slice (some ⟨W.heap.size+1,0,none⟩) 1 1)).run prog ((W.alloc o).alloc (.cells #[.int .u8 x] 5)).drew= .ok (.string (bA' [byteM y])) ((W.alloc o).alloc (.cells #[.int .u8 x] 5)).drew:=by
 subst hx
 have e:x=((byteM x).toNat:Int):=by unfold byteM;rw [u8_toNat _ (by omega)];omega
 have hc:CellsAt ((W.alloc o).alloc (.cells #[.int .u8 x] 5)).drew (W.heap.size+1) 0 (u8s [byteM x]):=by
  have:=CellsAt.new (W.alloc o) [.int .u8 x] 5
  rw [size_alloc] at this
  rw [show u8s [byteM x]= [.int .u8 x] by unfold u8s;simp only [List.map_cons,List.map_nil];rw [←e]]
  exact (Fr.refl No _).drew.cells this id
 exact run_str_of_bytes _ 22 9 5 underlying22 underlying5 underlying9 (W.heap.size+1) 0 1 [byteM x] 1 rfl hc
theorem forms_get:∀k:Nat,k<22→formsC[7*k]? =some (.string (bA' (formsL.getD k FI.none).op))∧formsC[7*k+1]? =some (.int .i64 (formsL.getD k FI.none).behind)∧formsC[7*k+2]? =some (.int .i64 (formsL.getD k FI.none).digit)∧formsC[7*k+3]? =some (.int .i64 (formsL.getD k FI.none).alu)∧formsC[7*k+4]? =some (.int .i64 (formsL.getD k FI.none).imm)∧formsC[7*k+5]? =some (.bool (formsL.getD k FI.none).wide)∧formsC[7*k+6]? =some (.bool (formsL.getD k FI.none).narrow):=by
 intro k hk
 match k,hk with
 |0,_=>exact ⟨rfl,rfl,rfl,rfl,rfl,rfl,rfl⟩
 |1,_=>exact ⟨rfl,rfl,rfl,rfl,rfl,rfl,rfl⟩
 |2,_=>exact ⟨rfl,rfl,rfl,rfl,rfl,rfl,rfl⟩
 |3,_=>exact ⟨rfl,rfl,rfl,rfl,rfl,rfl,rfl⟩
 |4,_=>exact ⟨rfl,rfl,rfl,rfl,rfl,rfl,rfl⟩
 |5,_=>exact ⟨rfl,rfl,rfl,rfl,rfl,rfl,rfl⟩
 |6,_=>exact ⟨rfl,rfl,rfl,rfl,rfl,rfl,rfl⟩
 |7,_=>exact ⟨rfl,rfl,rfl,rfl,rfl,rfl,rfl⟩
 |8,_=>exact ⟨rfl,rfl,rfl,rfl,rfl,rfl,rfl⟩
 |9,_=>exact ⟨rfl,rfl,rfl,rfl,rfl,rfl,rfl⟩
 |10,_=>exact ⟨rfl,rfl,rfl,rfl,rfl,rfl,rfl⟩
 |11,_=>exact ⟨rfl,rfl,rfl,rfl,rfl,rfl,rfl⟩
 |12,_=>exact ⟨rfl,rfl,rfl,rfl,rfl,rfl,rfl⟩
 |13,_=>exact ⟨rfl,rfl,rfl,rfl,rfl,rfl,rfl⟩
 |14,_=>exact ⟨rfl,rfl,rfl,rfl,rfl,rfl,rfl⟩
 |15,_=>exact ⟨rfl,rfl,rfl,rfl,rfl,rfl,rfl⟩
 |16,_=>exact ⟨rfl,rfl,rfl,rfl,rfl,rfl,rfl⟩
 |17,_=>exact ⟨rfl,rfl,rfl,rfl,rfl,rfl,rfl⟩
 |18,_=>exact ⟨rfl,rfl,rfl,rfl,rfl,rfl,rfl⟩
 |19,_=>exact ⟨rfl,rfl,rfl,rfl,rfl,rfl,rfl⟩
 |20,_=>exact ⟨rfl,rfl,rfl,rfl,rfl,rfl,rfl⟩
 |21,_=>exact ⟨rfl,rfl,rfl,rfl,rfl,rfl,rfl⟩
 |k+22,hk=>omega
theorem MachAt.form{w:World}(h:MachAt w)(k)(hk:k<22):w.cell? ⟨1,7*k,none⟩=some (.string (bA' (formsL.getD k FI.none).op))∧w.cell? ⟨1,7*k+1,none⟩=some (.int .i64 (formsL.getD k FI.none).behind)∧w.cell? ⟨1,7*k+2,none⟩=some (.int .i64 (formsL.getD k FI.none).digit)∧w.cell? ⟨1,7*k+3,none⟩=some (.int .i64 (formsL.getD k FI.none).alu)
  ∧w.cell? ⟨1,7*k+4,none⟩=some (.int .i64 (formsL.getD k FI.none).imm)∧w.cell? ⟨1,7*k+5,none⟩=some (.bool (formsL.getD k FI.none).wide)∧w.cell? ⟨1,7*k+6,none⟩=some (.bool (formsL.getD k FI.none).narrow)∧1<w.heap.size:=by
 obtain ⟨a,b,c,d,e,f,g⟩:=forms_get k hk
 have z:=fun j u q=>(h.forms j u q)
 simp only [Nat.zero_add] at z
 exact ⟨z _ _ a,z _ _ b,z _ _ c,z _ _ d,z _ _ e,z _ _ f,z _ _ g,World.block_lt_of_cell? w ⟨1,_,none⟩ (z _ _ a)⟩
theorem opcode_1(a c z wd sh d s dp rl im w)(h:MachAt w):
  Calls prog 106 #[(XI.mk 1 a c z wd sh d s dp rl im).agg] w fun e w'=>e= .returned (.string (bA' (opcodeM (XI.mk 1 a c z wd sh d s dp rl im))))∧Fr No w w':=by
 obtain ⟨f0,_,_,_,_,_,_,hg⟩:=h.form 1 (by decide)
 simp only [Nat.reduceMul] at f0
 have HQ:Hid (opcodeM (XI.mk 1 a c z wd sh d s dp rl im)=(formsL.getD 1 FI.none).op):=Lib.hid rfl
 clear h
 simp only [XI.agg]
 go_enter func106,ntmps106
 go_wp2_with fail
 go_ret
 exact ⟨by rw [HQ.out];rfl,fr_alloc w _⟩
theorem opcode_2(a c z wd sh d s dp rl im w)(h:MachAt w):
  Calls prog 106 #[(XI.mk 2 a c z wd sh d s dp rl im).agg] w fun e w'=>e= .returned (.string (bA' (opcodeM (XI.mk 2 a c z wd sh d s dp rl im))))∧Fr No w w':=by
 obtain ⟨f0,_,_,_,_,_,_,hg⟩:=h.form 2 (by decide)
 simp only [Nat.reduceMul] at f0
 have HQ:Hid (opcodeM (XI.mk 2 a c z wd sh d s dp rl im)=(formsL.getD 2 FI.none).op):=Lib.hid rfl
 clear h
 simp only [XI.agg]
 go_enter func106,ntmps106
 go_wp2_with fail
 go_ret
 exact ⟨by rw [HQ.out];rfl,fr_alloc w _⟩
theorem opcode_5(a c z wd sh d s dp rl im w)(h:MachAt w):
  Calls prog 106 #[(XI.mk 5 a c z wd sh d s dp rl im).agg] w fun e w'=>e= .returned (.string (bA' (opcodeM (XI.mk 5 a c z wd sh d s dp rl im))))∧Fr No w w':=by
 obtain ⟨f0,_,_,_,_,_,_,hg⟩:=h.form 5 (by decide)
 simp only [Nat.reduceMul] at f0
 have HQ:Hid (opcodeM (XI.mk 5 a c z wd sh d s dp rl im)=(formsL.getD 5 FI.none).op):=Lib.hid rfl
 clear h
 simp only [XI.agg]
 go_enter func106,ntmps106
 go_wp2_with fail
 go_ret
 exact ⟨by rw [HQ.out];rfl,fr_alloc w _⟩
theorem opcode_6(a c z wd sh d s dp rl im w)(h:MachAt w):
  Calls prog 106 #[(XI.mk 6 a c z wd sh d s dp rl im).agg] w fun e w'=>e= .returned (.string (bA' (opcodeM (XI.mk 6 a c z wd sh d s dp rl im))))∧Fr No w w':=by
 obtain ⟨f0,_,_,_,_,_,_,hg⟩:=h.form 6 (by decide)
 simp only [Nat.reduceMul] at f0
 have HQ:Hid (opcodeM (XI.mk 6 a c z wd sh d s dp rl im)=(formsL.getD 6 FI.none).op):=Lib.hid rfl
 clear h
 simp only [XI.agg]
 go_enter func106,ntmps106
 go_wp2_with fail
 go_ret
 exact ⟨by rw [HQ.out];rfl,fr_alloc w _⟩
theorem opcode_7(a c z wd sh d s dp rl im w)(h:MachAt w):
  Calls prog 106 #[(XI.mk 7 a c z wd sh d s dp rl im).agg] w fun e w'=>e= .returned (.string (bA' (opcodeM (XI.mk 7 a c z wd sh d s dp rl im))))∧Fr No w w':=by
 obtain ⟨f0,_,_,_,_,_,_,hg⟩:=h.form 7 (by decide)
 simp only [Nat.reduceMul] at f0
 have HQ:Hid (opcodeM (XI.mk 7 a c z wd sh d s dp rl im)=(formsL.getD 7 FI.none).op):=Lib.hid rfl
 clear h
 simp only [XI.agg]
 go_enter func106,ntmps106
 go_wp2_with fail
 go_ret
 exact ⟨by rw [HQ.out];rfl,fr_alloc w _⟩
theorem opcode_8(a c z wd sh d s dp rl im w)(h:MachAt w):
  Calls prog 106 #[(XI.mk 8 a c z wd sh d s dp rl im).agg] w fun e w'=>e= .returned (.string (bA' (opcodeM (XI.mk 8 a c z wd sh d s dp rl im))))∧Fr No w w':=by
 obtain ⟨f0,_,_,_,_,_,_,hg⟩:=h.form 8 (by decide)
 simp only [Nat.reduceMul] at f0
 have HQ:Hid (opcodeM (XI.mk 8 a c z wd sh d s dp rl im)=(formsL.getD 8 FI.none).op):=Lib.hid rfl
 clear h
 simp only [XI.agg]
 go_enter func106,ntmps106
 go_wp2_with fail
 go_ret
 exact ⟨by rw [HQ.out];rfl,fr_alloc w _⟩
theorem opcode_9(a c z wd sh d s dp rl im w)(h:MachAt w):
  Calls prog 106 #[(XI.mk 9 a c z wd sh d s dp rl im).agg] w fun e w'=>e= .returned (.string (bA' (opcodeM (XI.mk 9 a c z wd sh d s dp rl im))))∧Fr No w w':=by
 obtain ⟨f0,_,_,_,_,_,_,hg⟩:=h.form 9 (by decide)
 simp only [Nat.reduceMul] at f0
 have HQ:Hid (opcodeM (XI.mk 9 a c z wd sh d s dp rl im)=(formsL.getD 9 FI.none).op):=Lib.hid rfl
 clear h
 simp only [XI.agg]
 go_enter func106,ntmps106
 go_wp2_with fail
 go_ret
 exact ⟨by rw [HQ.out];rfl,fr_alloc w _⟩
theorem opcode_10(a c z wd sh d s dp rl im w)(h:MachAt w):
  Calls prog 106 #[(XI.mk 10 a c z wd sh d s dp rl im).agg] w fun e w'=>e= .returned (.string (bA' (opcodeM (XI.mk 10 a c z wd sh d s dp rl im))))∧Fr No w w':=by
 obtain ⟨f0,_,_,_,_,_,_,hg⟩:=h.form 10 (by decide)
 simp only [Nat.reduceMul] at f0
 have HQ:Hid (opcodeM (XI.mk 10 a c z wd sh d s dp rl im)=(formsL.getD 10 FI.none).op):=Lib.hid rfl
 clear h
 simp only [XI.agg]
 go_enter func106,ntmps106
 go_wp2_with fail
 go_ret
 exact ⟨by rw [HQ.out];rfl,fr_alloc w _⟩
theorem opcode_11(a c z wd sh d s dp rl im w)(h:MachAt w):
  Calls prog 106 #[(XI.mk 11 a c z wd sh d s dp rl im).agg] w fun e w'=>e= .returned (.string (bA' (opcodeM (XI.mk 11 a c z wd sh d s dp rl im))))∧Fr No w w':=by
 obtain ⟨f0,_,_,_,_,_,_,hg⟩:=h.form 11 (by decide)
 simp only [Nat.reduceMul] at f0
 have HQ:Hid (opcodeM (XI.mk 11 a c z wd sh d s dp rl im)=(formsL.getD 11 FI.none).op):=Lib.hid rfl
 clear h
 simp only [XI.agg]
 go_enter func106,ntmps106
 go_wp2_with fail
 go_ret
 exact ⟨by rw [HQ.out];rfl,fr_alloc w _⟩
theorem opcode_12(a c z wd sh d s dp rl im w)(h:MachAt w):
  Calls prog 106 #[(XI.mk 12 a c z wd sh d s dp rl im).agg] w fun e w'=>e= .returned (.string (bA' (opcodeM (XI.mk 12 a c z wd sh d s dp rl im))))∧Fr No w w':=by
 obtain ⟨f0,_,_,_,_,_,_,hg⟩:=h.form 12 (by decide)
 simp only [Nat.reduceMul] at f0
 have HQ:Hid (opcodeM (XI.mk 12 a c z wd sh d s dp rl im)=(formsL.getD 12 FI.none).op):=Lib.hid rfl
 clear h
 simp only [XI.agg]
 go_enter func106,ntmps106
 go_wp2_with fail
 go_ret
 exact ⟨by rw [HQ.out];rfl,fr_alloc w _⟩
theorem opcode_19(a c z wd sh d s dp rl im w)(h:MachAt w):
  Calls prog 106 #[(XI.mk 19 a c z wd sh d s dp rl im).agg] w fun e w'=>e= .returned (.string (bA' (opcodeM (XI.mk 19 a c z wd sh d s dp rl im))))∧Fr No w w':=by
 obtain ⟨f0,_,_,_,_,_,_,hg⟩:=h.form 19 (by decide)
 simp only [Nat.reduceMul] at f0
 have HQ:Hid (opcodeM (XI.mk 19 a c z wd sh d s dp rl im)=(formsL.getD 19 FI.none).op):=Lib.hid rfl
 clear h
 simp only [XI.agg]
 go_enter func106,ntmps106
 go_wp2_with fail
 go_ret
 exact ⟨by rw [HQ.out];rfl,fr_alloc w _⟩
theorem opcode_20(a c z wd sh d s dp rl im w)(h:MachAt w):
  Calls prog 106 #[(XI.mk 20 a c z wd sh d s dp rl im).agg] w fun e w'=>e= .returned (.string (bA' (opcodeM (XI.mk 20 a c z wd sh d s dp rl im))))∧Fr No w w':=by
 obtain ⟨f0,_,_,_,_,_,_,hg⟩:=h.form 20 (by decide)
 simp only [Nat.reduceMul] at f0
 have HQ:Hid (opcodeM (XI.mk 20 a c z wd sh d s dp rl im)=(formsL.getD 20 FI.none).op):=Lib.hid rfl
 clear h
 simp only [XI.agg]
 go_enter func106,ntmps106
 go_wp2_with fail
 go_ret
 exact ⟨by rw [HQ.out];rfl,fr_alloc w _⟩
theorem opcode_21(a c z wd sh d s dp rl im w)(h:MachAt w):
  Calls prog 106 #[(XI.mk 21 a c z wd sh d s dp rl im).agg] w fun e w'=>e= .returned (.string (bA' (opcodeM (XI.mk 21 a c z wd sh d s dp rl im))))∧Fr No w w':=by
 obtain ⟨f0,_,_,_,_,_,_,hg⟩:=h.form 21 (by decide)
 simp only [Nat.reduceMul] at f0
 have HQ:Hid (opcodeM (XI.mk 21 a c z wd sh d s dp rl im)=(formsL.getD 21 FI.none).op):=Lib.hid rfl
 clear h
 simp only [XI.agg]
 go_enter func106,ntmps106
 go_wp2_with fail
 go_ret
 exact ⟨by rw [HQ.out];rfl,fr_alloc w _⟩
theorem opcode_13(a c z wd sh d s dp rl im)(w:World)(h:MachAt w)(hw:(Lit.int .i64 z).wf=true):
  Calls prog 106 #[(XI.mk 13 a c z wd sh d s dp rl im).agg] w fun e w'=>e= .returned (.string (bA' (opcodeM (XI.mk 13 a c z wd sh d s dp rl im))))∧Fr No w w':=by
 obtain ⟨bm,n,hc,ho⟩:=h.loads
 have hg:=World.block_lt_of_cell? w _ hc
 have hl:∀o,(Instr.lookup 213 (.map (some bm)) (.int .i64 z) false).run prog (w.alloc o)= .ok (.string (bA' (loadsM z))) (w.alloc o):=fun o=>str_look (ho.alloc o) hw (loads_at z)
 have HQ:Hid (opcodeM (XI.mk 13 a c z wd sh d s dp rl im)=loadsM z):=Lib.hid rfl
 clear h ho
 simp only [XI.agg]
 go_enter func106,ntmps106
 go_wp2_with fail
 go_ret
 exact ⟨by rw [HQ.out];rfl,fr_alloc w _⟩
theorem opcode_14(a c z wd sh d s dp rl im)(w:World)(h:MachAt w)(hw:(Lit.int .i64 z).wf=true):
  Calls prog 106 #[(XI.mk 14 a c z wd sh d s dp rl im).agg] w fun e w'=>e= .returned (.string (bA' (opcodeM (XI.mk 14 a c z wd sh d s dp rl im))))∧Fr No w w':=by
 obtain ⟨bm,n,hc,ho⟩:=h.stores
 have hg:=World.block_lt_of_cell? w _ hc
 have hl:∀o,(Instr.lookup 213 (.map (some bm)) (.int .i64 z) false).run prog (w.alloc o)= .ok (.string (bA' (storesM z))) (w.alloc o):=fun o=>str_look (ho.alloc o) hw (stores_at z)
 have HQ:Hid (opcodeM (XI.mk 14 a c z wd sh d s dp rl im)=storesM z):=Lib.hid rfl
 clear h ho
 simp only [XI.agg]
 go_enter func106,ntmps106
 go_wp2_with fail
 go_ret
 exact ⟨by rw [HQ.out];rfl,fr_alloc w _⟩
theorem opcode_15(a c z wd sh d s dp rl im w)(h:MachAt w):
  Calls prog 106 #[(XI.mk 15 a c z wd sh d s dp rl im).agg] w fun e w'=>e= .returned (.string (bA' (opcodeM (XI.mk 15 a c z wd sh d s dp rl im))))∧Fr No w w':=by
 clear h
 simp only [XI.agg]
 cases sh
 ·have HQ:Hid (opcodeM (XI.mk 15 a c z wd false d s dp rl im)= [0xe9]):=Lib.hid rfl
  go_enter func106,ntmps106
  go_wp2_with fail
  go_ret
  exact ⟨by rw [HQ.out];rfl,fr_alloc w _⟩
 ·have HQ:Hid (opcodeM (XI.mk 15 a c z wd true d s dp rl im)= [0xeb]):=Lib.hid rfl
  go_enter func106,ntmps106
  go_wp2_with fail
  go_ret
  exact ⟨by rw [HQ.out];rfl,fr_alloc w _⟩
theorem opcode_4(a c z wd sh d s dp rl im w)(h:MachAt w)(ha:0≤a∧a<8):
  Calls prog 106 #[(XI.mk 4 a c z wd sh d s dp rl im).agg] w fun e w'=>e= .returned (.string (bA' (opcodeM (XI.mk 4 a c z wd sh d s dp rl im))))∧Fr No w w':=by
 clear h
 have hq:=fun o=>one_c1 w o (8*a+1) (by omega) (by omega)
 have HQ:Hid (opcodeM (XI.mk 4 a c z wd sh d s dp rl im)= [byteM (8*a+1)]):=Lib.hid rfl
 simp only [XI.agg]
 go_enter func106,ntmps106
 go_wp2_with fail
 go_ret
 exact ⟨by rw [HQ.out];rfl,(fr_alloc w _).alloc _⟩
theorem opcode_16(a c z wd sh d s dp rl im w)(h:MachAt w)(hc:0≤c∧c<16):
  Calls prog 106 #[(XI.mk 16 a c z wd sh d s dp rl im).agg] w fun e w'=>e= .returned (.string (bA' (opcodeM (XI.mk 16 a c z wd sh d s dp rl im))))∧Fr No w w':=by
 clear h
 have h1:=fun o=>one_c1 w o (112+c) (by omega) (by omega)
 have h2:=fun o=>one_c1 w o (128+c) (by omega) (by omega)
 have hadd:∀W,(Op.stringOp .add ⟨#[15]⟩ (bA' [byteM (128+c)])).run prog W= .ok (.string (⟨#[15]⟩++bA' [byteM (128+c)])) W:=fun W=>addJ _ _ (by decide) (by rw [sizeJ];simp) W
 have happ:(⟨#[15]⟩:ByteArray)++bA' [byteM (128+c)]=bA' [15,byteM (128+c)]:=appJ [15] [byteM (128+c)]
 simp only [happ] at hadd
 clear happ
 simp only [XI.agg]
 cases sh
 ·have HQ:Hid (opcodeM (XI.mk 16 a c z wd false d s dp rl im)= [15,byteM (128+c)]):=Lib.hid rfl
  go_enter func106,ntmps106
  go_wp2_with fail
  go_ret
  exact ⟨by rw [HQ.out];rfl,(fr_alloc w _).alloc _⟩
 ·have HQ:Hid (opcodeM (XI.mk 16 a c z wd true d s dp rl im)= [byteM (112+c)]):=Lib.hid rfl
  go_enter func106,ntmps106
  go_wp2_with fail
  go_ret
  exact ⟨by rw [HQ.out];rfl,(fr_alloc w _).alloc _⟩
theorem opcode_3(a c z wd sh d s dp rl im)(w:World)(h:MachAt w)(hd:0≤d∧d<16):
  Calls prog 106 #[(XI.mk 3 a c z wd sh d s dp rl im).agg] w fun e w'=>e= .returned (.string (bA' (opcodeM (XI.mk 3 a c z wd sh d s dp rl im))))∧Fr No w w':=by
 obtain ⟨f0,_,_,_,_,_,_,hg⟩:=h.form 3 (by decide)
 have f1:w.cell? ⟨1,21,none⟩=some (.string ⟨#[184]⟩):=f0
 clear h f0
 have h1:=fun o=>one_d1 w o ((((⟨#[184]⟩:ByteArray)[0].toNat:Int)+d%8)%256) (184+d%8) (by show ((184:Int)+d%8)%256=_;omega) (by omega) (by omega)
 have HQ:Hid (opcodeM (XI.mk 3 a c z wd sh d s dp rl im)= [byteM (184+d%8)]):=Lib.hid rfl
 simp only [XI.agg]
 go_enter func106,ntmps106
 go_wp2_with fail
 go_region
 go_wp2_with fail
 go_ret
 exact ⟨by rw [HQ.out];rfl,((fr_alloc w _).alloc _).drew⟩
theorem opcode_17(a c z wd sh d s dp rl im)(w:World)(h:MachAt w)(hd:0≤d∧d<16):
  Calls prog 106 #[(XI.mk 17 a c z wd sh d s dp rl im).agg] w fun e w'=>e= .returned (.string (bA' (opcodeM (XI.mk 17 a c z wd sh d s dp rl im))))∧Fr No w w':=by
 obtain ⟨f0,_,_,_,_,_,_,hg⟩:=h.form 17 (by decide)
 have f1:w.cell? ⟨1,119,none⟩=some (.string ⟨#[80]⟩):=f0
 clear h f0
 have h1:=fun o=>one_d1 w o ((((⟨#[80]⟩:ByteArray)[0].toNat:Int)+d%8)%256) (80+d%8) (by show ((80:Int)+d%8)%256=_;omega) (by omega) (by omega)
 have HQ:Hid (opcodeM (XI.mk 17 a c z wd sh d s dp rl im)= [byteM (80+d%8)]):=Lib.hid rfl
 simp only [XI.agg]
 go_enter func106,ntmps106
 go_wp2_with fail
 go_region
 go_wp2_with fail
 go_ret
 exact ⟨by rw [HQ.out];rfl,((fr_alloc w _).alloc _).drew⟩
theorem opcode_18(a c z wd sh d s dp rl im)(w:World)(h:MachAt w)(hd:0≤d∧d<16):
  Calls prog 106 #[(XI.mk 18 a c z wd sh d s dp rl im).agg] w fun e w'=>e= .returned (.string (bA' (opcodeM (XI.mk 18 a c z wd sh d s dp rl im))))∧Fr No w w':=by
 obtain ⟨f0,_,_,_,_,_,_,hg⟩:=h.form 18 (by decide)
 have f1:w.cell? ⟨1,126,none⟩=some (.string ⟨#[88]⟩):=f0
 clear h f0
 have h1:=fun o=>one_d1 w o ((((⟨#[88]⟩:ByteArray)[0].toNat:Int)+d%8)%256) (88+d%8) (by show ((88:Int)+d%8)%256=_;omega) (by omega) (by omega)
 have HQ:Hid (opcodeM (XI.mk 18 a c z wd sh d s dp rl im)= [byteM (88+d%8)]):=Lib.hid rfl
 simp only [XI.agg]
 go_enter func106,ntmps106
 go_wp2_with fail
 go_region
 go_wp2_with fail
 go_ret
 exact ⟨by rw [HQ.out];rfl,((fr_alloc w _).alloc _).drew⟩
end Go.Proofs.YtfmcmfiebehhiaaGreatDoor

