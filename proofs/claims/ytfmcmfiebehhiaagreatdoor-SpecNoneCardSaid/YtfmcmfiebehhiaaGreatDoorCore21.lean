/- package codec: guess, what its boxes hold. -/
import Derived.Test.YtfmcmfiebehhiaaGreatDoorCore20
set_option linter.all false
set_option linter.unusedVariables false
set_option linter.unusedSimpArgs false
namespace Go.Proofs.YtfmcmfiebehhiaaGreatDoor
open Go.Proofs.Tryz
open Go.RowKit
def XI.cells(x:XI):List Value:= [.int .i64 x.kind, .int .i64 x.alu, .int .i64 x.cond, .int .i64 x.size, .bool x.wide, .bool x.short, .int .i64 x.dst, .int .i64 x.src, .int .i32 x.disp, .int .i32 x.rel, .int .i64 x.imm]
theorem XI.cells_len(x:XI):x.cells.length=11:=rfl
theorem CellsAt.set1{w:World}{b}{vs:List Value}(h:CellsAt w b 0 vs){j}(hj:j<vs.length)(v):CellsAt (w.setCell ⟨b,j,none⟩ v) b 0 (vs.set j v):=by
 intro i u hu
 rw [Nat.zero_add]
 by_cases e:i=j
 ·subst e
  rw [List.getElem?_set_self hj] at hu
  obtain rfl:=Option.some.inj hu
  have:=h i _ (List.getElem?_eq_getElem hj)
  rw [Nat.zero_add] at this
  exact World.cell?_setCell_same _ _ _ (by rw [this])
 ·rw [List.getElem?_set_ne (Ne.symm e)] at hu
  have:=h i u hu
  rw [Nat.zero_add] at this
  rw [World.cell?_setCell_other _ _ _ _ (by intro h;injection h with _ h2;exact e h2.symm)]
  exact this
theorem CellsAt.else1{w:World}{b b' vs}(h:CellsAt w b 0 vs)(hb:b'≠b)(j v):CellsAt (w.setCell ⟨b',j,none⟩ v) b 0 vs:=by
 intro i u hu
 rw [World.cell?_setCell_other _ _ _ _ (by intro h;injection h with h1 _;exact hb h1)]
 exact h i u hu
structure GSt(w0:World)(b:Nat)(x:XI)(f:FI)(s:List UInt8)(w:World):Prop where
 fr:Fr No w0 w
 lo:w0.heap.size≤b
 res:CellsAt w b 0 XI.zero.cells
 x:CellsAt w (b+1) 0 x.cells
 open0:∀j,w.frozen? ⟨b,j,none⟩=false
 open1:∀j,w.frozen? ⟨b+1,j,none⟩=false
 rd:RdAt w (b+1+1) s
 f:CellsAt w (b+1+1+1) 0 f.cells
theorem cells_frozen{w w':World}{T g}(hf:Fr T w w')(hlt:g<w.heap.size)(hn:¬T g)(j):w'.frozen? ⟨g,j,none⟩=w.frozen? ⟨g,j,none⟩:=by
 unfold World.frozen?
 rw [hf.block g hlt hn]
theorem XI.at{w:World}{b}{x:XI}(h:CellsAt w b 0 x.cells):w.cell? ⟨b,0,none⟩=some (.int .i64 x.kind)∧w.cell? ⟨b,1,none⟩=some (.int .i64 x.alu)∧w.cell? ⟨b,2,none⟩=some (.int .i64 x.cond)∧w.cell? ⟨b,3,none⟩=some (.int .i64 x.size)∧w.cell? ⟨b,4,none⟩=some (.bool x.wide)∧w.cell? ⟨b,5,none⟩=some (.bool x.short)∧w.cell? ⟨b,6,none⟩=some (.int .i64 x.dst)∧w.cell? ⟨b,7,none⟩=some (.int .i64 x.src)∧w.cell? ⟨b,8,none⟩=some (.int .i32 x.disp)∧w.cell? ⟨b,9,none⟩=some (.int .i32 x.rel)∧w.cell? ⟨b,10,none⟩=some (.int .i64 x.imm):=by
 have z:=fun j u q=>h j u q
 simp only [Nat.zero_add] at z
 exact ⟨z 0 _ rfl,z 1 _ rfl,z 2 _ rfl,z 3 _ rfl,z 4 _ rfl,z 5 _ rfl,z 6 _ rfl,z 7 _ rfl,z 8 _ rfl,z 9 _ rfl,z 10 _ rfl⟩
theorem fi_at{w:World}{b}{f:FI}(h:CellsAt w b 0 f.cells):w.cell? ⟨b,0,none⟩=some (.string (bA' f.op))∧w.cell? ⟨b,1,none⟩=some (.int .i64 f.behind)∧w.cell? ⟨b,2,none⟩=some (.int .i64 f.digit)∧w.cell? ⟨b,3,none⟩=some (.int .i64 f.alu)∧w.cell? ⟨b,4,none⟩=some (.int .i64 f.imm)∧w.cell? ⟨b,5,none⟩=some (.bool f.wide)∧w.cell? ⟨b,6,none⟩=some (.bool f.narrow):=by
 have z:=fun j u q=>h j u q
 simp only [Nat.zero_add] at z
 exact ⟨z 0 _ rfl,z 1 _ rfl,z 2 _ rfl,z 3 _ rfl,z 4 _ rfl,z 5 _ rfl,z 6 _ rfl⟩
theorem GSt.lt1{w0 w:World}{b x f s}(h:GSt w0 b x f s w):b<w.heap.size∧b+1<w.heap.size:=
 ⟨World.block_lt_of_cell? w _ (XI.at h.res).1,World.block_lt_of_cell? w _ (XI.at h.x).1⟩
theorem GSt.read{w0 w w':World}{b x f s s'}(h:GSt w0 b x f s w)(hr:RdAt w' (b+1+1) s')(hf:Fr (fun k=>k=b+1+1) w w'):GSt w0 b x f s' w' where
 fr:=(h.fr.any.trans (hf.mono fun k _ hk=>by show w0.heap.size≤k;have:=h.lo;omega):Fr (From w0) w0 w').ours
 lo:=h.lo
 res:=hf.cells h.res (by omega)
 x:=hf.cells h.x (by omega)
 open0:=fun j=>by rw [cells_frozen hf h.lt1.1 (by omega)];exact h.open0 j
 open1:=fun j=>by rw [cells_frozen hf h.lt1.2 (by omega)];exact h.open1 j
 rd:=hr
 f:=hf.cells h.f (by omega)
theorem GSt.no{w0 w w' b x f s}(h:GSt w0 b x f s w)(hf:Fr No w w'):GSt w0 b x f s w':=
 h.read (h.rd.fr hf id) hf.any
theorem GSt.set{w0 w:World}{b}{x x':XI}{f s}(h:GSt w0 b x f s w){j}(hj:j<11){v}(e:x.cells.set j v=x'.cells):GSt w0 b x' f s (w.setCell ⟨b+1,j,none⟩ v) where
 fr:=((h.fr.any:Fr (From w0) w0 w).setCell (p:=⟨b+1,j,none⟩) (.inr (by show w0.heap.size≤b+1;have:=h.lo;omega)) v).ours
 lo:=h.lo
 res:=h.res.else1 (by omega) _ _
 x:=by rw [←e];exact h.x.set1 hj v
 open0:=fun j=>by rw [World.frozen?_setCell];exact h.open0 j
 open1:=fun j=>by rw [World.frozen?_setCell];exact h.open1 j
 rd:=⟨by rw [World.cell?_setCell_other _ _ _ _ (by intro h;injection h with h1 _;omega)];exact h.rd.cell,by rw [World.frozen?_setCell];exact h.rd.open_,h.rd.len⟩
 f:=h.f.else1 (by omega) _ _
theorem GSt.prefix{w0 w b x f}{s:List UInt8}(h:GSt w0 b x f s w)(c):
  Calls prog 100 #[.pointer (some ⟨b+1+1,0,none⟩), .string ⟨#[c]⟩] w fun e w'=>e= .returned (.bool (s.head? ==some c))∧Hid (GSt w0 b x f (if (s.head? ==some c)=true then s.drop 1 else s) w'):=
 (rprefix_any _ c s w h.rd).mono fun e w' ⟨he,h1,h2⟩=>⟨he,h.read h1.out h2.out⟩
theorem GSt.take{w0 w b x f}{s:List UInt8}(h:GSt w0 b x f s w)(n:Nat)(hn:n≤8):
  Calls prog 101 #[.pointer (some ⟨b+1+1,0,none⟩), .int .i64 n] w fun e w'=>e= .returned (.int .u64 (takeN s n))∧Hid (GSt w0 b x f (s.drop n) w'):=
 (rtake_any _ n s w h.rd hn).mono fun e w' ⟨he,h1,h2⟩=>⟨he,h.read h1.out h2.out⟩
theorem GSt.signed{w0 w b x f}{s:List UInt8}(h:GSt w0 b x f s w)(n:Nat)(hn:n=1∨n=4∨n=8):
  Calls prog 102 #[.pointer (some ⟨b+1+1,0,none⟩), .int .i64 n] w fun e w'=>e= .returned (.int .i64 (signI (takeN s n) (8*n)))∧Hid (GSt w0 b x f (s.drop n) w'):=
 (rsigned_any _ n s w h.rd hn).mono fun e w' ⟨he,h1,h2⟩=>⟨he,h.read h1.out h2.out⟩
theorem GSt.start{w:World}{k:Nat}{f:FI}{s:List UInt8}(hl:s.length≤1000000)(t1 t2 t3 t4:TypeId):
  GSt w w.heap.size {XI.zero with kind:=k} f s ((((w.alloc (.cells XI.zero.cells.toArray t1)).alloc (.cells ({XI.zero with kind:=(k:Int)}:XI).cells.toArray t2)).alloc (.cells #[.string (bA' s)] t3)).alloc (.cells f.cells.toArray t4)):=by
 obtain ⟨W1,hW1⟩:∃W1,W1=w.alloc (.cells XI.zero.cells.toArray t1):=⟨_,rfl⟩
 obtain ⟨W2,hW2⟩:∃W2,W2=W1.alloc (.cells ({XI.zero with kind:=(k:Int)}:XI).cells.toArray t2):=⟨_,rfl⟩
 obtain ⟨W3,hW3⟩:∃W3,W3=W2.alloc (.cells #[.string (bA' s)] t3):=⟨_,rfl⟩
 obtain ⟨W4,hW4⟩:∃W4,W4=W3.alloc (.cells f.cells.toArray t4):=⟨_,rfl⟩
 have z1:W1.heap.size=w.heap.size+1:=by rw [hW1,size_alloc]
 have z2:W2.heap.size=w.heap.size+1+1:=by rw [hW2,size_alloc,z1]
 have z3:W3.heap.size=w.heap.size+1+1+1:=by rw [hW3,size_alloc,z2]
 have c1:CellsAt W1 w.heap.size 0 XI.zero.cells:=by rw [hW1];exact CellsAt.new w _ _
 have c2:CellsAt W2 (w.heap.size+1) 0 ({XI.zero with kind:=(k:Int)}:XI).cells:=by rw [hW2,←z1];exact CellsAt.new _ _ _
 have c3:CellsAt W3 (w.heap.size+1+1) 0 [.string (bA' s)]:=by rw [hW3,←z2];exact CellsAt.new _ _ _
 have c4:CellsAt W4 (w.heap.size+1+1+1) 0 f.cells:=by rw [hW4,←z3];exact CellsAt.new _ _ _
 have f1:Fr No w W1:=by rw [hW1];exact fr_alloc _ _
 have f2:Fr No W1 W2:=by rw [hW2];exact fr_alloc _ _
 have f3:Fr No W2 W3:=by rw [hW3];exact fr_alloc _ _
 have f4:Fr No W3 W4:=by rw [hW4];exact fr_alloc _ _
 have o1:∀j,W1.frozen? ⟨w.heap.size,j,none⟩=false:=fun j=>by rw [hW1];exact World.frozen?_alloc_new _ _ _ _
 have o2:∀j,W2.frozen? ⟨w.heap.size+1,j,none⟩=false:=fun j=>by rw [hW2,←z1];exact World.frozen?_alloc_new _ _ _ _
 have o3:∀j,W3.frozen? ⟨w.heap.size+1+1,j,none⟩=false:=fun j=>by rw [hW3,←z2];exact World.frozen?_alloc_new _ _ _ _
 rw [←hW1,←hW2,←hW3,←hW4]
 refine ⟨f1.trans (f2.trans (f3.trans f4)),Nat.le_refl _,(f2.trans (f3.trans f4)).cells c1 id,(f3.trans f4).cells c2 id,fun j=> ?_,fun j=> ?_,⟨?_,?_,hl⟩,c4⟩
 ·rw [cells_frozen (f2.trans (f3.trans f4)) (by omega) id];exact o1 j
 ·rw [cells_frozen (f3.trans f4) (by omega) id];exact o2 j
 ·exact f4.cell (c3 0 _ rfl) id
 ·rw [cells_frozen f4 (by omega) id];exact o3 0
def putX(w:World)(b:Nat)(y:XI):World:=(((((((((((w.setCell ⟨b,0,none⟩ (.int .i64 y.kind)).setCell ⟨b,1,none⟩ (.int .i64 y.alu)).setCell ⟨b,2,none⟩ (.int .i64 y.cond)).setCell ⟨b,3,none⟩ (.int .i64 y.size)).setCell ⟨b,4,none⟩ (.bool y.wide)).setCell ⟨b,5,none⟩ (.bool y.short)).setCell ⟨b,6,none⟩ (.int .i64 y.dst)).setCell ⟨b,7,none⟩ (.int .i64 y.src)).setCell ⟨b,8,none⟩ (.int .i32 y.disp)).setCell ⟨b,9,none⟩ (.int .i32 y.rel)).setCell ⟨b,10,none⟩ (.int .i64 y.imm))
theorem putX_cells{w0 w:World}{b}(hf:Fr No w0 w)(hlo:w0.heap.size≤b)(h:CellsAt w b 0 XI.zero.cells)(y:XI):CellsAt (putX w b y) b 0 y.cells∧Fr No w0 (putX w b y):=by
 have c:=h
 have c:=c.set1 (j:=0) (by simp only [List.length_set,XI.cells_len];decide) (.int .i64 y.kind)
 have c:=c.set1 (j:=1) (by simp only [List.length_set,XI.cells_len];decide) (.int .i64 y.alu)
 have c:=c.set1 (j:=2) (by simp only [List.length_set,XI.cells_len];decide) (.int .i64 y.cond)
 have c:=c.set1 (j:=3) (by simp only [List.length_set,XI.cells_len];decide) (.int .i64 y.size)
 have c:=c.set1 (j:=4) (by simp only [List.length_set,XI.cells_len];decide) (.bool y.wide)
 have c:=c.set1 (j:=5) (by simp only [List.length_set,XI.cells_len];decide) (.bool y.short)
 have c:=c.set1 (j:=6) (by simp only [List.length_set,XI.cells_len];decide) (.int .i64 y.dst)
 have c:=c.set1 (j:=7) (by simp only [List.length_set,XI.cells_len];decide) (.int .i64 y.src)
 have c:=c.set1 (j:=8) (by simp only [List.length_set,XI.cells_len];decide) (.int .i32 y.disp)
 have c:=c.set1 (j:=9) (by simp only [List.length_set,XI.cells_len];decide) (.int .i32 y.rel)
 have c:=c.set1 (j:=10) (by simp only [List.length_set,XI.cells_len];decide) (.int .i64 y.imm)
 have g:Fr (From w0) w0 w:=hf.any
 have g:=g.setCell (p:=⟨b,0,none⟩) (.inr hlo) (.int .i64 y.kind)
 have g:=g.setCell (p:=⟨b,1,none⟩) (.inr hlo) (.int .i64 y.alu)
 have g:=g.setCell (p:=⟨b,2,none⟩) (.inr hlo) (.int .i64 y.cond)
 have g:=g.setCell (p:=⟨b,3,none⟩) (.inr hlo) (.int .i64 y.size)
 have g:=g.setCell (p:=⟨b,4,none⟩) (.inr hlo) (.bool y.wide)
 have g:=g.setCell (p:=⟨b,5,none⟩) (.inr hlo) (.bool y.short)
 have g:=g.setCell (p:=⟨b,6,none⟩) (.inr hlo) (.int .i64 y.dst)
 have g:=g.setCell (p:=⟨b,7,none⟩) (.inr hlo) (.int .i64 y.src)
 have g:=g.setCell (p:=⟨b,8,none⟩) (.inr hlo) (.int .i32 y.disp)
 have g:=g.setCell (p:=⟨b,9,none⟩) (.inr hlo) (.int .i32 y.rel)
 have g:=g.setCell (p:=⟨b,10,none⟩) (.inr hlo) (.int .i64 y.imm)
 exact ⟨c,g.ours⟩
theorem GSt.put{w0 w b x f s}(h:GSt w0 b x f s w)(y:XI):CellsAt (putX w b y) b 0 y.cells∧Fr No w0 (putX w b y):=by
 have c:=h.res
 have c:=c.set1 (j:=0) (by simp only [List.length_set,XI.cells_len];decide) (.int .i64 y.kind)
 have c:=c.set1 (j:=1) (by simp only [List.length_set,XI.cells_len];decide) (.int .i64 y.alu)
 have c:=c.set1 (j:=2) (by simp only [List.length_set,XI.cells_len];decide) (.int .i64 y.cond)
 have c:=c.set1 (j:=3) (by simp only [List.length_set,XI.cells_len];decide) (.int .i64 y.size)
 have c:=c.set1 (j:=4) (by simp only [List.length_set,XI.cells_len];decide) (.bool y.wide)
 have c:=c.set1 (j:=5) (by simp only [List.length_set,XI.cells_len];decide) (.bool y.short)
 have c:=c.set1 (j:=6) (by simp only [List.length_set,XI.cells_len];decide) (.int .i64 y.dst)
 have c:=c.set1 (j:=7) (by simp only [List.length_set,XI.cells_len];decide) (.int .i64 y.src)
 have c:=c.set1 (j:=8) (by simp only [List.length_set,XI.cells_len];decide) (.int .i32 y.disp)
 have c:=c.set1 (j:=9) (by simp only [List.length_set,XI.cells_len];decide) (.int .i32 y.rel)
 have c:=c.set1 (j:=10) (by simp only [List.length_set,XI.cells_len];decide) (.int .i64 y.imm)
 have g:Fr (From w0) w0 w:=h.fr.any
 have g:=g.setCell (p:=⟨b,0,none⟩) (.inr h.lo) (.int .i64 y.kind)
 have g:=g.setCell (p:=⟨b,1,none⟩) (.inr h.lo) (.int .i64 y.alu)
 have g:=g.setCell (p:=⟨b,2,none⟩) (.inr h.lo) (.int .i64 y.cond)
 have g:=g.setCell (p:=⟨b,3,none⟩) (.inr h.lo) (.int .i64 y.size)
 have g:=g.setCell (p:=⟨b,4,none⟩) (.inr h.lo) (.bool y.wide)
 have g:=g.setCell (p:=⟨b,5,none⟩) (.inr h.lo) (.bool y.short)
 have g:=g.setCell (p:=⟨b,6,none⟩) (.inr h.lo) (.int .i64 y.dst)
 have g:=g.setCell (p:=⟨b,7,none⟩) (.inr h.lo) (.int .i64 y.src)
 have g:=g.setCell (p:=⟨b,8,none⟩) (.inr h.lo) (.int .i32 y.disp)
 have g:=g.setCell (p:=⟨b,9,none⟩) (.inr h.lo) (.int .i32 y.rel)
 have g:=g.setCell (p:=⟨b,10,none⟩) (.inr h.lo) (.int .i64 y.imm)
 exact ⟨c,g.ours⟩
def stepC(f:FI)(op:Nat)(two half wide short:Bool)(mid0 fin0:Nat)(rest:List UInt8)(x0:XI):XI×List UInt8:=
 if f.behind=4 then ({x0 with dst:=(fin0+op%8:Nat)},rest)
 else if f.behind=7 then
  ({x0 with rel:=signI (takeN rest (if short then 1 else 4)) (8*(if short then 1 else 4))},rest.drop (if short then 1 else 4))
 else if f.behind=0 then (x0,rest)
 else
  let m:=takeN rest 1
  let r:=rest.drop 1
  let mid:=mid0+m/8%8
  let fin:=fin0+m%8
  let x1:XI:=if f.behind=3∧f.alu≠0 then {x0 with alu:=(mid%8:Nat)} else x0
  if f.behind=1 then ({x1 with dst:=(fin:Int),src:=(mid:Int)},r)
  else if f.behind=2 then ({x1 with dst:=(mid:Int),src:=(fin:Int)},r)
  else if f.behind=3 then ({x1 with dst:=(fin:Int)},r)
  else
   let r2:=if fin%8=4 then r.drop 1 else r
   ({x1 with size:=sizeOfM f.behind op two half wide,dst:=if f.behind=6 then (fin:Int) else (mid:Int),src:=if f.behind=6 then (mid:Int) else (fin:Int),disp:=signI (takeN r2 4) 32},r2.drop 4)
theorem guessC_step{half two high op R k}(hk:k≠21):
  guessC ⟨half,high,two,op,R⟩ k=
   let f:=formsL.getD k FI.none
   let sh:=if k=16 then !two else if k=15 then decide (op=0xeb) else false
   let xr:=stepC f op two half (decide (high/8%2=1)) sh (high/4%2*8) (high%2*8) R {XI.zero with kind:=k,wide:=decide (high/8%2=1),short:=sh,cond:=(if k=16 then ((op%16:Nat):Int) else 0),alu:=(if k=4 then ((op/8:Nat):Int) else 0)}
   if 0<f.imm then {xr.1 with imm:=signI (takeN xr.2 f.imm) (8*f.imm)} else xr.1:=by
 unfold guessC
 rw [if_neg hk]
 rfl
theorem or_bits:∀a:Nat,a<2→∀m:Nat,m<8→bits .or .i64 ((a:Int)*8) (m:Int)=((a*8+m:Nat):Int):=by decide+kernel
end Go.Proofs.YtfmcmfiebehhiaaGreatDoor

