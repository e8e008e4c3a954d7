/- package cpu: the state's box; minus, flags. package cpu: arith, times; bits.Div32. bits.Div64, plain: a digit of a quotient (of two digits by two). bits.Div32, bits.Div64. bits.Div64, the walk. .. -/
import Derived.Test.YtfmcmfiebehhiaaGreatDoorCore8
import Derived.Test.YtfmcmfiebehhiaaGreatDoorCore16
import Derived.Test.YtfmcmfiebehhiaaGreatDoorCore21
import Derived.Deep.MidRow
import Derived.Test.YtfmcmfiebehhiaaGreatDoorCoreS
import Derived.BigGuardPart
import Derived.Deep.CutBlock
import Derived.Deep.RegionHeld3
set_option linter.all false
set_option linter.unusedVariables false
set_option linter.unusedSimpArgs false
set_option maxRecDepth 100000
set_option maxHeartbeats 1000000
namespace Go.Proofs.YtfmcmfiebehhiaaGreatDoor
open Go.Proofs.Tryz
open Go.RowKit
def ST.cells(s:ST):List Value:=s.r.map (fun v:Nat=>Value.int .u64 (v:Int))++ [.bool s.z, .bool s.s, .bool s.c, .bool s.o, .int .u64 s.pc]
def ST.agg(s:ST):Value:= .agg s.cells.toArray
theorem ST.cells_len{s:ST}(h:s.ok):s.cells.length=21:=by unfold ST.cells;rw [List.length_append,List.length_map,h.len];rfl
theorem ST.cells_reg{s:ST}{i}(hi:i<s.r.length):s.cells[i]? =some (.int .u64 (s.reg i)):=by
 unfold ST.cells ST.reg
 rw [List.getElem?_append_left (by rw [List.length_map];exact hi),List.getElem?_map,List.getElem?_eq_getElem hi,List.getD_eq_getElem?_getD,List.getElem?_eq_getElem hi]
 rfl
theorem ST.cells_hi{s:ST}(h:s.ok):s.cells[16]? =some (.bool s.z)∧s.cells[17]? =some (.bool s.s)∧s.cells[18]? =some (.bool s.c)∧s.cells[19]? =some (.bool s.o)∧s.cells[20]? =some (.int .u64 s.pc):=by
 have e:∀i,s.cells[16+i]? = [Value.bool s.z, .bool s.s, .bool s.c, .bool s.o, .int .u64 s.pc][i]? :=fun i=>by
  unfold ST.cells
  rw [List.getElem?_append_right (by rw [List.length_map,h.len];omega),List.length_map,h.len]
  congr 1
  omega
 exact ⟨e 0,e 1,e 2,e 3,e 4⟩
structure SAt(w:World)(b:Nat)(s:ST):Prop where
 cells:CellsAt w b 0 s.cells
 open_:∀j,w.frozen? ⟨b,j,none⟩=false
 ok:s.ok
theorem SAt.at{w:World}{b}{s:ST}(h:SAt w b s):w.cell? ⟨b,16,none⟩=some (.bool s.z)∧w.cell? ⟨b,17,none⟩=some (.bool s.s)∧w.cell? ⟨b,18,none⟩=some (.bool s.c)∧w.cell? ⟨b,19,none⟩=some (.bool s.o)∧w.cell? ⟨b,20,none⟩=some (.int .u64 s.pc):=by
 obtain ⟨a,b',c,d,e⟩:=ST.cells_hi h.ok
 have z:=fun j u q=>h.cells j u q
 simp only [Nat.zero_add] at z
 exact ⟨z _ _ a,z _ _ b',z _ _ c,z _ _ d,z _ _ e⟩
theorem SAt.reg{w:World}{b}{s:ST}(h:SAt w b s){i}(hi:i<16):w.cell? ⟨b,i,none⟩=some (.int .u64 (s.reg i)):=by
 have:=h.cells i _ (ST.cells_reg (by rw [h.ok.len];exact hi))
 rwa [Nat.zero_add] at this
theorem SAt.lt{w:World}{b s}(h:SAt w b s):b<w.heap.size:=World.block_lt_of_cell? w _ h.at.1
theorem SAt.fr{T w w' b s}(h:SAt w b s)(hf:Fr T w w')(hb:¬T b):SAt w' b s:=
 ⟨hf.cells h.cells hb,fun j=>by rw [cells_frozen hf h.lt hb];exact h.open_ j,h.ok⟩
theorem SAt.put{w:World}{b}{s s':ST}(h:SAt w b s){j}(hj:j<21){v}(e:s.cells.set j v=s'.cells)(ho:s'.ok):SAt (w.setCell ⟨b,j,none⟩ v) b s':=
 ⟨by rw [←e];exact h.cells.set1 (by rw [ST.cells_len h.ok];exact hj) v,fun j=>by rw [World.frozen?_setCell];exact h.open_ j,ho⟩
theorem ST.set_cells(s:ST){i}(hi:i<s.r.length)(v:Nat):s.cells.set i (.int .u64 v)=(s.set i v).cells:=by
 unfold ST.cells ST.set
 rw [List.set_append_left _ _ (by rw [List.length_map];exact hi),←List.map_set]
theorem ST.hi_cells{s:ST}(h:s.ok):(∀v,s.cells.set 16 (.bool v)=({s with z:=v}:ST).cells)∧(∀v,s.cells.set 17 (.bool v)=({s with s:=v}:ST).cells)∧(∀v,s.cells.set 18 (.bool v)=({s with c:=v}:ST).cells)∧(∀v,s.cells.set 19 (.bool v)=({s with o:=v}:ST).cells)∧(∀v:Nat,s.cells.set 20 (.int .u64 v)=({s with pc:=v}:ST).cells):=by
 have e:∀i v,s.cells.set (16+i) v=s.r.map (fun v:Nat=>Value.int .u64 (v:Int))++ [Value.bool s.z, .bool s.s, .bool s.c, .bool s.o, .int .u64 s.pc].set i v:=fun i v=>by
  unfold ST.cells
  rw [List.set_append_right _ _ (by rw [List.length_map,h.len];omega),List.length_map,h.len]
  congr 2
  omega
 exact ⟨fun v=>e 0 _,fun v=>e 1 _,fun v=>e 2 _,fun v=>e 3 _,fun v=>e 4 _⟩
theorem SAt.setReg{w:World}{b:Nat}{s:ST}(h:SAt w b s){i:Nat}(hi:i<16){v:Nat}(hv:v<18446744073709551616):SAt (w.setCell ⟨b,i,none⟩ (.int .u64 v)) b (s.set i v):=
 h.put (by omega) (ST.set_cells s (by rw [h.ok.len];exact hi) v) (h.ok.set i hv)
theorem ST.ok.hi{s:ST}(h:s.ok)(z n c o):({s with z:=z,s:=n,c:=c,o:=o}:ST).ok:=⟨h.len,h.lt,h.pc⟩
theorem ST.ok.at_{s:ST}(h:s.ok){p}(hp:p<18446744073709551616):({s with pc:=p}:ST).ok:=⟨h.len,h.lt,hp⟩
theorem SAt.setZ{w:World}{b s}(h:SAt w b s)(v):SAt (w.setCell ⟨b,16,none⟩ (.bool v)) b {s with z:=v}:=h.put (by decide) ((ST.hi_cells h.ok).1 v) (h.ok.hi _ _ _ _)
theorem SAt.setS{w:World}{b s}(h:SAt w b s)(v):SAt (w.setCell ⟨b,17,none⟩ (.bool v)) b {s with s:=v}:=h.put (by decide) ((ST.hi_cells h.ok).2.1 v) (h.ok.hi _ _ _ _)
theorem SAt.setC{w:World}{b s}(h:SAt w b s)(v):SAt (w.setCell ⟨b,18,none⟩ (.bool v)) b {s with c:=v}:=h.put (by decide) ((ST.hi_cells h.ok).2.2.1 v) (h.ok.hi _ _ _ _)
theorem SAt.setO{w:World}{b s}(h:SAt w b s)(v):SAt (w.setCell ⟨b,19,none⟩ (.bool v)) b {s with o:=v}:=h.put (by decide) ((ST.hi_cells h.ok).2.2.2.1 v) (h.ok.hi _ _ _ _)
theorem SAt.setPC{w:World}{b:Nat}{s:ST}(h:SAt w b s){v:Nat}(hv:v<18446744073709551616):SAt (w.setCell ⟨b,20,none⟩ (.int .u64 v)) b {s with pc:=v}:=h.put (by decide) ((ST.hi_cells h.ok).2.2.2.2 v) (h.ok.at_ hv)
theorem msb_test(wide){x:Nat}(h:x<wordN wide):msbN wide x=x.testBit (bitsN wide-1):=by
 unfold msbN
 cases wide
 ·simp only [wordN,bitsN,Bool.false_eq_true,if_false] at*
  rw [Nat.testBit_eq_decide_div_mod_eq,show (2:Nat)^(32-1)=2147483648 from rfl]
  congr 1
  rw [eq_iff_iff]
  omega
 ·simp only [wordN,bitsN,if_true] at*
  rw [Nat.testBit_eq_decide_div_mod_eq,show (2:Nat)^(64-1)=9223372036854775808 from rfl]
  congr 1
  rw [eq_iff_iff]
  omega
theorem xor_lt(wide){a b}(ha:a<wordN wide)(hb:b<wordN wide):a^^^b<wordN wide:=by
 rw [word_pow] at*
 exact Nat.xor_lt_two_pow ha hb
theorem msb_over(wide){a b r}(ha:a<wordN wide)(hb:b<wordN wide)(hr:r<wordN wide):msbN wide ((a^^^r)&&&(b^^^r))=((msbN wide a !=msbN wide r)&&(msbN wide b !=msbN wide r)):=by
 rw [msb_test wide (Nat.lt_of_le_of_lt Nat.and_le_left (xor_lt wide ha hr)),msb_test wide ha,msb_test wide hb,msb_test wide hr,Nat.testBit_and,Nat.testBit_xor,Nat.testBit_xor]
theorem msb_under(wide){a b r}(ha:a<wordN wide)(hb:b<wordN wide)(hr:r<wordN wide):msbN wide ((a^^^b)&&&(a^^^r))=((msbN wide a !=msbN wide b)&&(msbN wide a !=msbN wide r)):=by
 rw [msb_test wide (Nat.lt_of_le_of_lt Nat.and_le_left (xor_lt wide ha hb)),msb_test wide ha,msb_test wide hb,msb_test wide hr,Nat.testBit_and,Nat.testBit_xor,Nat.testBit_xor]
theorem minus64_any(v:Nat)(w:World):Calls prog 160 #[.int .u64 v] w fun e w'=>e= .returned (.bool (msbN true v))∧w=w':=by
 have e:bits .xor .u64 IntKind.u64.max 0/2=9223372036854775807:=by decide+kernel
 have E:Hid (msbN true v=decide ((9223372036854775807:Int)<(v:Int))):=by
  unfold msbN
  rw [show wordN true=18446744073709551616 from rfl]
  exact Lib.hid (by congr 1;rw [eq_iff_iff];omega)
 go_enter func160,ntmps160
 go_wp2_with fail
 all_goals go_ret
 all_goals exact ⟨by rw [E.out];rfl,rfl⟩
theorem minus32_any(v:Nat)(w:World):Calls prog 161 #[.int .u32 v] w fun e w'=>e= .returned (.bool (msbN false v))∧w=w':=by
 have e:bits .xor .u32 IntKind.u32.max 0/2=2147483647:=by decide+kernel
 have E:Hid (msbN false v=decide ((2147483647:Int)<(v:Int))):=by
  unfold msbN
  rw [show wordN false=4294967296 from rfl]
  exact Lib.hid (by congr 1;rw [eq_iff_iff];omega)
 go_enter func161,ntmps161
 go_wp2_with fail
 all_goals go_ret
 all_goals exact ⟨by rw [E.out];rfl,rfl⟩
theorem u64_eq0(r:Nat):((r:Int)==0)=decide (r=0):=by rw [Bool.eq_iff_iff,beq_iff_eq,decide_eq_true_iff];omega
theorem flags64_0(g a b r:Nat)(s:ST)(w:World)(h:SAt w g s)(ha:a<18446744073709551616)(hb:b<18446744073709551616)(hr:r<18446744073709551616):
  Calls prog 147 #[.pointer (some ⟨g,0,none⟩), .int .i64 0, .int .u64 a, .int .u64 b, .int .u64 r] w fun e w'=>e= .returned (.tuple #[])∧Hid (SAt w' g (flagsM s 0 true a b r))∧Hid (Fr (fun k=>k=g) w w'):=by
 have hl:=h.lt
 obtain ⟨c0,c1,c2,c3,c4⟩:=h.at
 have o1:=h.open_
 have HM:Hid (∀(v:Nat) W,Calls prog 160 #[.int .u64 v] W fun e w'=>e= .returned (.bool (msbN true v))∧W=w'):=fun v W=>minus64_any v W
 have x1:=bits_xor_u64_nat a r ha hr
 have x2:=bits_xor_u64_nat b r hb hr
 have lx1:a^^^r<18446744073709551616:=xor_lt true (show a<wordN true from ha) (show r<wordN true from hr)
 have lx2:b^^^r<18446744073709551616:=xor_lt true (show b<wordN true from hb) (show r<wordN true from hr)
 have x3:=(bits64_nat (a^^^r) (b^^^r) lx1 lx2).1
 have hv:=msb_over true (a:=a) (b:=b) (r:=r) ha hb hr
 have HE:Hid (SAt ((((((w.setCell ⟨g,16,none⟩ (.bool ((r:Int)==0))).setCell ⟨g,17,none⟩ (.bool (msbN true r))).setCell ⟨g,18,none⟩ (.bool false)).setCell ⟨g,19,none⟩ (.bool false)).setCell ⟨g,18,none⟩ (.bool (decide (r<a)))).setCell ⟨g,19,none⟩ (.bool (msbN true ((a^^^r)&&&(b^^^r))))) g (flagsM s 0 true a b r)):=by
  have:=(((((h.setZ ((r:Int)==0)).setS (msbN true r)).setC false).setO false).setC (decide (r<a))).setO (msbN true ((a^^^r)&&&(b^^^r)))
  simp only [flagsM,show wordN true=18446744073709551616 from rfl,Nat.mod_eq_of_lt ha,Nat.mod_eq_of_lt hb,Nat.mod_eq_of_lt hr]
  rw [hv,u64_eq0] at this
  rw [hv,u64_eq0]
  exact this
 have HF:Hid (Fr (fun k=>k=g) w ((((((w.setCell ⟨g,16,none⟩ (.bool ((r:Int)==0))).setCell ⟨g,17,none⟩ (.bool (msbN true r))).setCell ⟨g,18,none⟩ (.bool false)).setCell ⟨g,19,none⟩ (.bool false)).setCell ⟨g,18,none⟩ (.bool (decide (r<a)))).setCell ⟨g,19,none⟩ (.bool (msbN true ((a^^^r)&&&(b^^^r)))))):=
  Lib.hid (((((((Fr.refl (fun k=>k=g) w).setCell (p:=⟨g,16,none⟩) (.inr rfl) _).setCell (p:=⟨g,17,none⟩) (.inr rfl) _).setCell (p:=⟨g,18,none⟩) (.inr rfl) _).setCell (p:=⟨g,19,none⟩) (.inr rfl) _).setCell (p:=⟨g,18,none⟩) (.inr rfl) _).setCell (p:=⟨g,19,none⟩) (.inr rfl) _)
 clear hv lx1 lx2 h ha hb hr
 generalize hy1:(a^^^r)=Y1 at*
 generalize hy2:(b^^^r)=Y2 at*
 generalize hy3:(Y1&&&Y2)=Y3 at*
 clear hy1 hy2 hy3
 go_enter func147,ntmps147
 go_wp2_with (go_at_call 160;(first|(with_reducible refine (HM.out r _).mono ?_)|(with_reducible refine (HM.out Y3 _).mono ?_));rintro e w1 ⟨rfl,rfl⟩)
 first|go_end0|refine bodyPost_ret (results_none rfl _ _ _) rfl ?_
 exact ⟨rfl,HE,HF⟩
theorem flags64_5(g a b r:Nat)(s:ST)(w:World)(h:SAt w g s)(ha:a<18446744073709551616)(hb:b<18446744073709551616)(hr:r<18446744073709551616):
  Calls prog 147 #[.pointer (some ⟨g,0,none⟩), .int .i64 5, .int .u64 a, .int .u64 b, .int .u64 r] w fun e w'=>e= .returned (.tuple #[])∧Hid (SAt w' g (flagsM s 5 true a b r))∧Hid (Fr (fun k=>k=g) w w'):=by
 have hl:=h.lt
 obtain ⟨c0,c1,c2,c3,c4⟩:=h.at
 have o1:=h.open_
 have HM:Hid (∀(v:Nat) W,Calls prog 160 #[.int .u64 v] W fun e w'=>e= .returned (.bool (msbN true v))∧W=w'):=fun v W=>minus64_any v W
 have x1:=bits_xor_u64_nat a b ha hb
 have x2:=bits_xor_u64_nat a r ha hr
 have lx1:a^^^b<18446744073709551616:=xor_lt true (show a<wordN true from ha) (show b<wordN true from hb)
 have lx2:a^^^r<18446744073709551616:=xor_lt true (show a<wordN true from ha) (show r<wordN true from hr)
 have x3:=(bits64_nat (a^^^b) (a^^^r) lx1 lx2).1
 have hv:=msb_under true (a:=a) (b:=b) (r:=r) ha hb hr
 have HE:Hid (SAt ((((((w.setCell ⟨g,16,none⟩ (.bool ((r:Int)==0))).setCell ⟨g,17,none⟩ (.bool (msbN true r))).setCell ⟨g,18,none⟩ (.bool false)).setCell ⟨g,19,none⟩ (.bool false)).setCell ⟨g,18,none⟩ (.bool (decide (a<b)))).setCell ⟨g,19,none⟩ (.bool (msbN true ((a^^^b)&&&(a^^^r))))) g (flagsM s 5 true a b r)):=by
  have:=(((((h.setZ ((r:Int)==0)).setS (msbN true r)).setC false).setO false).setC (decide (a<b))).setO (msbN true ((a^^^b)&&&(a^^^r)))
  simp only [flagsM,show wordN true=18446744073709551616 from rfl,Nat.mod_eq_of_lt ha,Nat.mod_eq_of_lt hb,Nat.mod_eq_of_lt hr]
  rw [hv,u64_eq0] at this
  rw [hv,u64_eq0]
  exact this
 have HF:Hid (Fr (fun k=>k=g) w ((((((w.setCell ⟨g,16,none⟩ (.bool ((r:Int)==0))).setCell ⟨g,17,none⟩ (.bool (msbN true r))).setCell ⟨g,18,none⟩ (.bool false)).setCell ⟨g,19,none⟩ (.bool false)).setCell ⟨g,18,none⟩ (.bool (decide (a<b)))).setCell ⟨g,19,none⟩ (.bool (msbN true ((a^^^b)&&&(a^^^r)))))):=
  Lib.hid (((((((Fr.refl (fun k=>k=g) w).setCell (p:=⟨g,16,none⟩) (.inr rfl) _).setCell (p:=⟨g,17,none⟩) (.inr rfl) _).setCell (p:=⟨g,18,none⟩) (.inr rfl) _).setCell (p:=⟨g,19,none⟩) (.inr rfl) _).setCell (p:=⟨g,18,none⟩) (.inr rfl) _).setCell (p:=⟨g,19,none⟩) (.inr rfl) _)
 clear hv lx1 lx2 h ha hb hr
 generalize hy1:(a^^^b)=Y1 at*
 generalize hy2:(a^^^r)=Y2 at*
 generalize hy3:(Y1&&&Y2)=Y3 at*
 clear hy1 hy2 hy3
 go_enter func147,ntmps147
 go_wp2_with (go_at_call 160;(first|(with_reducible refine (HM.out r _).mono ?_)|(with_reducible refine (HM.out Y3 _).mono ?_));rintro e w1 ⟨rfl,rfl⟩)
 first|go_end0|refine bodyPost_ret (results_none rfl _ _ _) rfl ?_
 exact ⟨rfl,HE,HF⟩
theorem flags64_7(g a b r:Nat)(s:ST)(w:World)(h:SAt w g s)(ha:a<18446744073709551616)(hb:b<18446744073709551616)(hr:r<18446744073709551616):
  Calls prog 147 #[.pointer (some ⟨g,0,none⟩), .int .i64 7, .int .u64 a, .int .u64 b, .int .u64 r] w fun e w'=>e= .returned (.tuple #[])∧Hid (SAt w' g (flagsM s 7 true a b r))∧Hid (Fr (fun k=>k=g) w w'):=by
 have hl:=h.lt
 obtain ⟨c0,c1,c2,c3,c4⟩:=h.at
 have o1:=h.open_
 have HM:Hid (∀(v:Nat) W,Calls prog 160 #[.int .u64 v] W fun e w'=>e= .returned (.bool (msbN true v))∧W=w'):=fun v W=>minus64_any v W
 have x1:=bits_xor_u64_nat a b ha hb
 have x2:=bits_xor_u64_nat a r ha hr
 have lx1:a^^^b<18446744073709551616:=xor_lt true (show a<wordN true from ha) (show b<wordN true from hb)
 have lx2:a^^^r<18446744073709551616:=xor_lt true (show a<wordN true from ha) (show r<wordN true from hr)
 have x3:=(bits64_nat (a^^^b) (a^^^r) lx1 lx2).1
 have hv:=msb_under true (a:=a) (b:=b) (r:=r) ha hb hr
 have HE:Hid (SAt ((((((w.setCell ⟨g,16,none⟩ (.bool ((r:Int)==0))).setCell ⟨g,17,none⟩ (.bool (msbN true r))).setCell ⟨g,18,none⟩ (.bool false)).setCell ⟨g,19,none⟩ (.bool false)).setCell ⟨g,18,none⟩ (.bool (decide (a<b)))).setCell ⟨g,19,none⟩ (.bool (msbN true ((a^^^b)&&&(a^^^r))))) g (flagsM s 7 true a b r)):=by
  have:=(((((h.setZ ((r:Int)==0)).setS (msbN true r)).setC false).setO false).setC (decide (a<b))).setO (msbN true ((a^^^b)&&&(a^^^r)))
  simp only [flagsM,show wordN true=18446744073709551616 from rfl,Nat.mod_eq_of_lt ha,Nat.mod_eq_of_lt hb,Nat.mod_eq_of_lt hr]
  rw [hv,u64_eq0] at this
  rw [hv,u64_eq0]
  exact this
 have HF:Hid (Fr (fun k=>k=g) w ((((((w.setCell ⟨g,16,none⟩ (.bool ((r:Int)==0))).setCell ⟨g,17,none⟩ (.bool (msbN true r))).setCell ⟨g,18,none⟩ (.bool false)).setCell ⟨g,19,none⟩ (.bool false)).setCell ⟨g,18,none⟩ (.bool (decide (a<b)))).setCell ⟨g,19,none⟩ (.bool (msbN true ((a^^^b)&&&(a^^^r)))))):=
  Lib.hid (((((((Fr.refl (fun k=>k=g) w).setCell (p:=⟨g,16,none⟩) (.inr rfl) _).setCell (p:=⟨g,17,none⟩) (.inr rfl) _).setCell (p:=⟨g,18,none⟩) (.inr rfl) _).setCell (p:=⟨g,19,none⟩) (.inr rfl) _).setCell (p:=⟨g,18,none⟩) (.inr rfl) _).setCell (p:=⟨g,19,none⟩) (.inr rfl) _)
 clear hv lx1 lx2 h ha hb hr
 generalize hy1:(a^^^b)=Y1 at*
 generalize hy2:(a^^^r)=Y2 at*
 generalize hy3:(Y1&&&Y2)=Y3 at*
 clear hy1 hy2 hy3
 go_enter func147,ntmps147
 go_wp2_with (go_at_call 160;(first|(with_reducible refine (HM.out r _).mono ?_)|(with_reducible refine (HM.out Y3 _).mono ?_));rintro e w1 ⟨rfl,rfl⟩)
 first|go_end0|refine bodyPost_ret (results_none rfl _ _ _) rfl ?_
 exact ⟨rfl,HE,HF⟩
theorem flags64_else(op:Int)(h0:op≠0)(h5:op≠5)(h7:op≠7)(g a b r:Nat)(s:ST)(w:World)(h:SAt w g s)(ha:a<18446744073709551616)(hb:b<18446744073709551616)(hr:r<18446744073709551616):
  Calls prog 147 #[.pointer (some ⟨g,0,none⟩), .int .i64 op, .int .u64 a, .int .u64 b, .int .u64 r] w fun e w'=>e= .returned (.tuple #[])∧Hid (SAt w' g (flagsM s op true a b r))∧Hid (Fr (fun k=>k=g) w w'):=by
 have hl:=h.lt
 obtain ⟨c0,c1,c2,c3,c4⟩:=h.at
 have o1:=h.open_
 have HM:Hid (∀(v:Nat) W,Calls prog 160 #[.int .u64 v] W fun e w'=>e= .returned (.bool (msbN true v))∧W=w'):=fun v W=>minus64_any v W
 have q0:(op==0)=false:=by rw [beq_eq_false_iff_ne];exact h0
 have q5:(op==5)=false:=by rw [beq_eq_false_iff_ne];exact h5
 have q7:(op==7)=false:=by rw [beq_eq_false_iff_ne];exact h7
 have HE:Hid (SAt ((((w.setCell ⟨g,16,none⟩ (.bool ((r:Int)==0))).setCell ⟨g,17,none⟩ (.bool (msbN true r))).setCell ⟨g,18,none⟩ (.bool false)).setCell ⟨g,19,none⟩ (.bool false)) g (flagsM s op true a b r)):=by
  have:=(((h.setZ ((r:Int)==0)).setS (msbN true r)).setC false).setO false
  simp only [flagsM,show wordN true=18446744073709551616 from rfl,Nat.mod_eq_of_lt ha,Nat.mod_eq_of_lt hb,Nat.mod_eq_of_lt hr]
  rw [if_neg h0,if_neg h0,if_neg (fun h=>h.elim h5 h7),if_neg (fun h=>h.elim h5 h7)]
  rw [u64_eq0] at this
  rw [u64_eq0]
  exact this
 have HF:Hid (Fr (fun k=>k=g) w ((((w.setCell ⟨g,16,none⟩ (.bool ((r:Int)==0))).setCell ⟨g,17,none⟩ (.bool (msbN true r))).setCell ⟨g,18,none⟩ (.bool false)).setCell ⟨g,19,none⟩ (.bool false))):=Lib.hid (((((Fr.refl (fun k=>k=g) w).setCell (p:=⟨g,16,none⟩) (.inr rfl) _).setCell (p:=⟨g,17,none⟩) (.inr rfl) _).setCell (p:=⟨g,18,none⟩) (.inr rfl) _).setCell (p:=⟨g,19,none⟩) (.inr rfl) _)
 clear h ha hb hr h0 h5 h7
 go_enter func147,ntmps147
 go_wp2_with (go_at_call 160;(with_reducible refine (HM.out r _).mono ?_);rintro e w1 ⟨rfl,rfl⟩)
 first|go_end0|refine bodyPost_ret (results_none rfl _ _ _) rfl ?_
 exact ⟨rfl,HE,HF⟩
theorem flags64_any(op:Int)(g a b r:Nat)(s:ST)(w:World)(h:SAt w g s)(ha:a<18446744073709551616)(hb:b<18446744073709551616)(hr:r<18446744073709551616):
  Calls prog 147 #[.pointer (some ⟨g,0,none⟩), .int .i64 op, .int .u64 a, .int .u64 b, .int .u64 r] w fun e w'=>e= .returned (.tuple #[])∧Hid (SAt w' g (flagsM s op true a b r))∧Hid (Fr (fun k=>k=g) w w'):=by
 by_cases h0:op=0
 ·subst h0;exact flags64_0 g a b r s w h ha hb hr
 by_cases h5:op=5
 ·subst h5;exact flags64_5 g a b r s w h ha hb hr
 by_cases h7:op=7
 ·subst h7;exact flags64_7 g a b r s w h ha hb hr
 exact flags64_else op h0 h5 h7 g a b r s w h ha hb hr
theorem flags32_0(g a b r:Nat)(s:ST)(w:World)(h:SAt w g s)(ha:a<4294967296)(hb:b<4294967296)(hr:r<4294967296):
  Calls prog 148 #[.pointer (some ⟨g,0,none⟩), .int .i64 0, .int .u32 a, .int .u32 b, .int .u32 r] w fun e w'=>e= .returned (.tuple #[])∧Hid (SAt w' g (flagsM s 0 false a b r))∧Hid (Fr (fun k=>k=g) w w'):=by
 have hl:=h.lt
 obtain ⟨c0,c1,c2,c3,c4⟩:=h.at
 have o1:=h.open_
 have HM:Hid (∀(v:Nat) W,Calls prog 161 #[.int .u32 v] W fun e w'=>e= .returned (.bool (msbN false v))∧W=w'):=fun v W=>minus32_any v W
 have x1:=xor32_nat a r ha hr
 have x2:=xor32_nat b r hb hr
 have lx1:a^^^r<4294967296:=xor_lt false (show a<wordN false from ha) (show r<wordN false from hr)
 have lx2:b^^^r<4294967296:=xor_lt false (show b<wordN false from hb) (show r<wordN false from hr)
 have x3:=(bits32_nat (a^^^r) (b^^^r) lx1 lx2).1
 have hv:=msb_over false (a:=a) (b:=b) (r:=r) ha hb hr
 have HE:Hid (SAt ((((((w.setCell ⟨g,16,none⟩ (.bool ((r:Int)==0))).setCell ⟨g,17,none⟩ (.bool (msbN false r))).setCell ⟨g,18,none⟩ (.bool false)).setCell ⟨g,19,none⟩ (.bool false)).setCell ⟨g,18,none⟩ (.bool (decide (r<a)))).setCell ⟨g,19,none⟩ (.bool (msbN false ((a^^^r)&&&(b^^^r))))) g (flagsM s 0 false a b r)):=by
  have:=(((((h.setZ ((r:Int)==0)).setS (msbN false r)).setC false).setO false).setC (decide (r<a))).setO (msbN false ((a^^^r)&&&(b^^^r)))
  simp only [flagsM,show wordN false=4294967296 from rfl,Nat.mod_eq_of_lt ha,Nat.mod_eq_of_lt hb,Nat.mod_eq_of_lt hr]
  rw [hv,u64_eq0] at this
  rw [hv,u64_eq0]
  exact this
 have HF:Hid (Fr (fun k=>k=g) w ((((((w.setCell ⟨g,16,none⟩ (.bool ((r:Int)==0))).setCell ⟨g,17,none⟩ (.bool (msbN false r))).setCell ⟨g,18,none⟩ (.bool false)).setCell ⟨g,19,none⟩ (.bool false)).setCell ⟨g,18,none⟩ (.bool (decide (r<a)))).setCell ⟨g,19,none⟩ (.bool (msbN false ((a^^^r)&&&(b^^^r)))))):=
  Lib.hid (((((((Fr.refl (fun k=>k=g) w).setCell (p:=⟨g,16,none⟩) (.inr rfl) _).setCell (p:=⟨g,17,none⟩) (.inr rfl) _).setCell (p:=⟨g,18,none⟩) (.inr rfl) _).setCell (p:=⟨g,19,none⟩) (.inr rfl) _).setCell (p:=⟨g,18,none⟩) (.inr rfl) _).setCell (p:=⟨g,19,none⟩) (.inr rfl) _)
 clear hv lx1 lx2 h ha hb hr
 generalize hy1:(a^^^r)=Y1 at*
 generalize hy2:(b^^^r)=Y2 at*
 generalize hy3:(Y1&&&Y2)=Y3 at*
 clear hy1 hy2 hy3
 go_enter func148,ntmps148
 go_wp2_with (go_at_call 161;(first|(with_reducible refine (HM.out r _).mono ?_)|(with_reducible refine (HM.out Y3 _).mono ?_));rintro e w1 ⟨rfl,rfl⟩)
 first|go_end0|refine bodyPost_ret (results_none rfl _ _ _) rfl ?_
 exact ⟨rfl,HE,HF⟩
theorem flags32_5(g a b r:Nat)(s:ST)(w:World)(h:SAt w g s)(ha:a<4294967296)(hb:b<4294967296)(hr:r<4294967296):
  Calls prog 148 #[.pointer (some ⟨g,0,none⟩), .int .i64 5, .int .u32 a, .int .u32 b, .int .u32 r] w fun e w'=>e= .returned (.tuple #[])∧Hid (SAt w' g (flagsM s 5 false a b r))∧Hid (Fr (fun k=>k=g) w w'):=by
 have hl:=h.lt
 obtain ⟨c0,c1,c2,c3,c4⟩:=h.at
 have o1:=h.open_
 have HM:Hid (∀(v:Nat) W,Calls prog 161 #[.int .u32 v] W fun e w'=>e= .returned (.bool (msbN false v))∧W=w'):=fun v W=>minus32_any v W
 have x1:=xor32_nat a b ha hb
 have x2:=xor32_nat a r ha hr
 have lx1:a^^^b<4294967296:=xor_lt false (show a<wordN false from ha) (show b<wordN false from hb)
 have lx2:a^^^r<4294967296:=xor_lt false (show a<wordN false from ha) (show r<wordN false from hr)
 have x3:=(bits32_nat (a^^^b) (a^^^r) lx1 lx2).1
 have hv:=msb_under false (a:=a) (b:=b) (r:=r) ha hb hr
 have HE:Hid (SAt ((((((w.setCell ⟨g,16,none⟩ (.bool ((r:Int)==0))).setCell ⟨g,17,none⟩ (.bool (msbN false r))).setCell ⟨g,18,none⟩ (.bool false)).setCell ⟨g,19,none⟩ (.bool false)).setCell ⟨g,18,none⟩ (.bool (decide (a<b)))).setCell ⟨g,19,none⟩ (.bool (msbN false ((a^^^b)&&&(a^^^r))))) g (flagsM s 5 false a b r)):=by
  have:=(((((h.setZ ((r:Int)==0)).setS (msbN false r)).setC false).setO false).setC (decide (a<b))).setO (msbN false ((a^^^b)&&&(a^^^r)))
  simp only [flagsM,show wordN false=4294967296 from rfl,Nat.mod_eq_of_lt ha,Nat.mod_eq_of_lt hb,Nat.mod_eq_of_lt hr]
  rw [hv,u64_eq0] at this
  rw [hv,u64_eq0]
  exact this
 have HF:Hid (Fr (fun k=>k=g) w ((((((w.setCell ⟨g,16,none⟩ (.bool ((r:Int)==0))).setCell ⟨g,17,none⟩ (.bool (msbN false r))).setCell ⟨g,18,none⟩ (.bool false)).setCell ⟨g,19,none⟩ (.bool false)).setCell ⟨g,18,none⟩ (.bool (decide (a<b)))).setCell ⟨g,19,none⟩ (.bool (msbN false ((a^^^b)&&&(a^^^r)))))):=
  Lib.hid (((((((Fr.refl (fun k=>k=g) w).setCell (p:=⟨g,16,none⟩) (.inr rfl) _).setCell (p:=⟨g,17,none⟩) (.inr rfl) _).setCell (p:=⟨g,18,none⟩) (.inr rfl) _).setCell (p:=⟨g,19,none⟩) (.inr rfl) _).setCell (p:=⟨g,18,none⟩) (.inr rfl) _).setCell (p:=⟨g,19,none⟩) (.inr rfl) _)
 clear hv lx1 lx2 h ha hb hr
 generalize hy1:(a^^^b)=Y1 at*
 generalize hy2:(a^^^r)=Y2 at*
 generalize hy3:(Y1&&&Y2)=Y3 at*
 clear hy1 hy2 hy3
 go_enter func148,ntmps148
 go_wp2_with (go_at_call 161;(first|(with_reducible refine (HM.out r _).mono ?_)|(with_reducible refine (HM.out Y3 _).mono ?_));rintro e w1 ⟨rfl,rfl⟩)
 first|go_end0|refine bodyPost_ret (results_none rfl _ _ _) rfl ?_
 exact ⟨rfl,HE,HF⟩
theorem flags32_7(g a b r:Nat)(s:ST)(w:World)(h:SAt w g s)(ha:a<4294967296)(hb:b<4294967296)(hr:r<4294967296):
  Calls prog 148 #[.pointer (some ⟨g,0,none⟩), .int .i64 7, .int .u32 a, .int .u32 b, .int .u32 r] w fun e w'=>e= .returned (.tuple #[])∧Hid (SAt w' g (flagsM s 7 false a b r))∧Hid (Fr (fun k=>k=g) w w'):=by
 have hl:=h.lt
 obtain ⟨c0,c1,c2,c3,c4⟩:=h.at
 have o1:=h.open_
 have HM:Hid (∀(v:Nat) W,Calls prog 161 #[.int .u32 v] W fun e w'=>e= .returned (.bool (msbN false v))∧W=w'):=fun v W=>minus32_any v W
 have x1:=xor32_nat a b ha hb
 have x2:=xor32_nat a r ha hr
 have lx1:a^^^b<4294967296:=xor_lt false (show a<wordN false from ha) (show b<wordN false from hb)
 have lx2:a^^^r<4294967296:=xor_lt false (show a<wordN false from ha) (show r<wordN false from hr)
 have x3:=(bits32_nat (a^^^b) (a^^^r) lx1 lx2).1
 have hv:=msb_under false (a:=a) (b:=b) (r:=r) ha hb hr
 have HE:Hid (SAt ((((((w.setCell ⟨g,16,none⟩ (.bool ((r:Int)==0))).setCell ⟨g,17,none⟩ (.bool (msbN false r))).setCell ⟨g,18,none⟩ (.bool false)).setCell ⟨g,19,none⟩ (.bool false)).setCell ⟨g,18,none⟩ (.bool (decide (a<b)))).setCell ⟨g,19,none⟩ (.bool (msbN false ((a^^^b)&&&(a^^^r))))) g (flagsM s 7 false a b r)):=by
  have:=(((((h.setZ ((r:Int)==0)).setS (msbN false r)).setC false).setO false).setC (decide (a<b))).setO (msbN false ((a^^^b)&&&(a^^^r)))
  simp only [flagsM,show wordN false=4294967296 from rfl,Nat.mod_eq_of_lt ha,Nat.mod_eq_of_lt hb,Nat.mod_eq_of_lt hr]
  rw [hv,u64_eq0] at this
  rw [hv,u64_eq0]
  exact this
 have HF:Hid (Fr (fun k=>k=g) w ((((((w.setCell ⟨g,16,none⟩ (.bool ((r:Int)==0))).setCell ⟨g,17,none⟩ (.bool (msbN false r))).setCell ⟨g,18,none⟩ (.bool false)).setCell ⟨g,19,none⟩ (.bool false)).setCell ⟨g,18,none⟩ (.bool (decide (a<b)))).setCell ⟨g,19,none⟩ (.bool (msbN false ((a^^^b)&&&(a^^^r)))))):=
  Lib.hid (((((((Fr.refl (fun k=>k=g) w).setCell (p:=⟨g,16,none⟩) (.inr rfl) _).setCell (p:=⟨g,17,none⟩) (.inr rfl) _).setCell (p:=⟨g,18,none⟩) (.inr rfl) _).setCell (p:=⟨g,19,none⟩) (.inr rfl) _).setCell (p:=⟨g,18,none⟩) (.inr rfl) _).setCell (p:=⟨g,19,none⟩) (.inr rfl) _)
 clear hv lx1 lx2 h ha hb hr
 generalize hy1:(a^^^b)=Y1 at*
 generalize hy2:(a^^^r)=Y2 at*
 generalize hy3:(Y1&&&Y2)=Y3 at*
 clear hy1 hy2 hy3
 go_enter func148,ntmps148
 go_wp2_with (go_at_call 161;(first|(with_reducible refine (HM.out r _).mono ?_)|(with_reducible refine (HM.out Y3 _).mono ?_));rintro e w1 ⟨rfl,rfl⟩)
 first|go_end0|refine bodyPost_ret (results_none rfl _ _ _) rfl ?_
 exact ⟨rfl,HE,HF⟩
theorem flags32_else(op:Int)(h0:op≠0)(h5:op≠5)(h7:op≠7)(g a b r:Nat)(s:ST)(w:World)(h:SAt w g s)(ha:a<4294967296)(hb:b<4294967296)(hr:r<4294967296):
  Calls prog 148 #[.pointer (some ⟨g,0,none⟩), .int .i64 op, .int .u32 a, .int .u32 b, .int .u32 r] w fun e w'=>e= .returned (.tuple #[])∧Hid (SAt w' g (flagsM s op false a b r))∧Hid (Fr (fun k=>k=g) w w'):=by
 have hl:=h.lt
 obtain ⟨c0,c1,c2,c3,c4⟩:=h.at
 have o1:=h.open_
 have HM:Hid (∀(v:Nat) W,Calls prog 161 #[.int .u32 v] W fun e w'=>e= .returned (.bool (msbN false v))∧W=w'):=fun v W=>minus32_any v W
 have q0:(op==0)=false:=by rw [beq_eq_false_iff_ne];exact h0
 have q5:(op==5)=false:=by rw [beq_eq_false_iff_ne];exact h5
 have q7:(op==7)=false:=by rw [beq_eq_false_iff_ne];exact h7
 have HE:Hid (SAt ((((w.setCell ⟨g,16,none⟩ (.bool ((r:Int)==0))).setCell ⟨g,17,none⟩ (.bool (msbN false r))).setCell ⟨g,18,none⟩ (.bool false)).setCell ⟨g,19,none⟩ (.bool false)) g (flagsM s op false a b r)):=by
  have:=(((h.setZ ((r:Int)==0)).setS (msbN false r)).setC false).setO false
  simp only [flagsM,show wordN false=4294967296 from rfl,Nat.mod_eq_of_lt ha,Nat.mod_eq_of_lt hb,Nat.mod_eq_of_lt hr]
  rw [if_neg h0,if_neg h0,if_neg (fun h=>h.elim h5 h7),if_neg (fun h=>h.elim h5 h7)]
  rw [u64_eq0] at this
  rw [u64_eq0]
  exact this
 have HF:Hid (Fr (fun k=>k=g) w ((((w.setCell ⟨g,16,none⟩ (.bool ((r:Int)==0))).setCell ⟨g,17,none⟩ (.bool (msbN false r))).setCell ⟨g,18,none⟩ (.bool false)).setCell ⟨g,19,none⟩ (.bool false))):=Lib.hid (((((Fr.refl (fun k=>k=g) w).setCell (p:=⟨g,16,none⟩) (.inr rfl) _).setCell (p:=⟨g,17,none⟩) (.inr rfl) _).setCell (p:=⟨g,18,none⟩) (.inr rfl) _).setCell (p:=⟨g,19,none⟩) (.inr rfl) _)
 clear h ha hb hr h0 h5 h7
 go_enter func148,ntmps148
 go_wp2_with (go_at_call 161;(with_reducible refine (HM.out r _).mono ?_);rintro e w1 ⟨rfl,rfl⟩)
 first|go_end0|refine bodyPost_ret (results_none rfl _ _ _) rfl ?_
 exact ⟨rfl,HE,HF⟩
theorem flags32_any(op:Int)(g a b r:Nat)(s:ST)(w:World)(h:SAt w g s)(ha:a<4294967296)(hb:b<4294967296)(hr:r<4294967296):
  Calls prog 148 #[.pointer (some ⟨g,0,none⟩), .int .i64 op, .int .u32 a, .int .u32 b, .int .u32 r] w fun e w'=>e= .returned (.tuple #[])∧Hid (SAt w' g (flagsM s op false a b r))∧Hid (Fr (fun k=>k=g) w w'):=by
 by_cases h0:op=0
 ·subst h0;exact flags32_0 g a b r s w h ha hb hr
 by_cases h5:op=5
 ·subst h5;exact flags32_5 g a b r s w h ha hb hr
 by_cases h7:op=7
 ·subst h7;exact flags32_7 g a b r s w h ha hb hr
 exact flags32_else op h0 h5 h7 g a b r s w h ha hb hr
theorem does_mem(op):doesM op∈opsL:=by
 unfold doesM opsL
 split;·simp
 split;·simp
 split;·simp
 split;·simp
 split;·simp
 split<;>simp
theorem flagsM_mod(s op a b r):flagsM s op false (a%4294967296) (b%4294967296) (r%4294967296)=flagsM s op false a b r:=by
 simp only [flagsM,show wordN false=4294967296 from rfl,Nat.mod_mod]
theorem doM_u64(op wide a b):doM op wide a b<18446744073709551616:=Nat.lt_of_lt_of_le (doM_lt op wide a b) (word_le wide)
theorem arith_any(g:Nat)(wide:Bool)(op:Int)(a b:Nat)(s:ST)(w:World)(h:SAt w g s)(hm:MachAt w)(hop:(Lit.int .i64 op).wf=true)(ha:a<18446744073709551616)(hb:b<18446744073709551616):
  Calls prog 118 #[.pointer (some ⟨g,0,none⟩), .bool wide, .int .i64 op, .int .u64 a, .int .u64 b] w fun e w'=>e= .returned (.int .u64 (arithM s wide op a b).2)∧Hid (SAt w' g (arithM s wide op a b).1)∧Hid (Fr (fun k=>k=g) w w'):=by
 obtain ⟨bm,n,hc,ho⟩:=hm.does
 have hl:(Instr.lookup 229 (.map (some bm)) (.int .i64 op) false).run prog w= .ok (.int .u8 (doesM op)) w:=u8_look ho hop (does_at op)
 have HD:Hid (∀W,Calls prog 117 #[.int .u8 (doesM op), .bool wide, .int .u64 a, .int .u64 b] W fun e w'=>e= .returned (.int .u64 (doM (doesM op) wide a b))∧W=w'):=fun W=>Do_any (doesM op) wide a b (does_mem op) ha hb W
 have hr:=doM_u64 (doesM op) wide a b
 simp only [arithM]
 generalize doM (doesM op) wide a b=r at*
 clear hm ho
 cases wide with
 |true=>
  have HF:=Lib.hid (flags64_any op g a b r s w h ha hb hr)
  clear ha hb hr h
  go_enter func118,ntmps118
  go_wp2_with (first
   |(go_at_call 117;(with_reducible refine (HD.out _).mono ?_);rintro e w1 ⟨rfl,rfl⟩)
   |(go_at_call 147;(with_reducible refine (HF.out).mono ?_);rintro e w2 ⟨rfl,HS,HR⟩))
  go_ret
  exact ⟨rfl,HS,HR⟩
 |false=>
  have HF:=flags32_any op g (a%4294967296) (b%4294967296) (r%4294967296) s w h (by omega) (by omega) (by omega)
  rw [flagsM_mod] at HF
  have f2:(((b%4294967296:Nat):Int))=(b:Int)%4294967296:=by omega
  have f3:(((a%4294967296:Nat):Int))=(a:Int)%4294967296:=by omega
  have f4:(((r%4294967296:Nat):Int))=(r:Int)%4294967296:=by omega
  rw [f2,f3,f4] at HF
  have HF:=Lib.hid HF
  clear ha hb hr h f2 f3 f4
  go_enter func118,ntmps118
  go_wp2_with (first
   |(go_at_call 117;(with_reducible refine (HD.out _).mono ?_);rintro e w1 ⟨rfl,rfl⟩)
   |(go_at_call 148;(with_reducible refine (HF.out).mono ?_);rintro e w2 ⟨rfl,HS,HR⟩))
  go_ret
  exact ⟨rfl,HS,HR⟩
theorem div_lt_of{N y W}(hy:0<y)(h:N<W*y):N/y<W:=(Nat.div_lt_iff_lt_mul hy).2 h
theorem hi_lo{hi lo y W:Nat}(hh:hi<y)(hl:lo<W):hi*W+lo<W*y:=by
 have:(hi+1)*W≤y*W:=Nat.mul_le_mul_right W hh
 rw [Nat.add_mul,Nat.one_mul] at this
 rw [Nat.mul_comm W y]
 omega
end Go.Proofs.YtfmcmfiebehhiaaGreatDoor

