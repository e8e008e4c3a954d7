/- package machine: Step of whatever. package codec: guess, the walk. -/
import Derived.Test.YtfmcmfiebehhiaaGreatDoorCore26
import Derived.Test.YtfmcmfiebehhiaaGreatDoorCore21
set_option linter.all false
set_option linter.unusedVariables false
set_option linter.unusedSimpArgs false
set_option maxRecDepth 100000
set_option maxHeartbeats 8000000
namespace Go.Proofs.YtfmcmfiebehhiaaGreatDoor
open Go.Proofs.Tryz
open Go.RowKit
theorem GoodX.exE{e}{t:ST}(ht:t.ok):GoodX (exE e t):=by
 unfold Go.Proofs.YtfmcmfiebehhiaaGreatDoor.exE
 split
 ·exact GoodX.ok_ ht
 ·rename_i h;exact GoodX.err h
theorem good_ite{p}[Decidable p]{a b:Except Int ST×HW}(ha:GoodX a.1)(hb:GoodX b.1):GoodX (if p then a else b).1:=by split<;>assumption
theorem lostM_ok{t:ST}(ht:t.ok){v}(hv:v<18446744073709551616):(lostM t v).ok:=by
 unfold lostM
 exact ((((((((ht.set 1 (by decide)).set 2 (by decide)).set 6 (by decide)).set 7 (by decide)).set 8 (by decide)).set 9 (by decide)).set 10 (by decide)).set 11 (by decide)).set 0 hv
theorem stepM_ok{w0 wr N bw mb ds p RL W}(h:WM w0 N bw mb ds p RL W wr)(x:XI){next}{s:ST}(hs:s.ok)(hn:next<18446744073709551616):GoodX (stepM ds W x next s).1:=by
 have ht:(ST.mk s.r s.z s.s s.c s.o next).ok:=⟨hs.len,hs.lt,hn⟩
 have hta:(touchM x s).1<18446744073709551616:=by
  unfold touchM
  split;·decide
  split;·exact farM_lt _ _
  split;·exact farM_lt _ _
  split;·exact farM_lt _ _
  split
  ·exact hs.reg 4
  ·decide
 unfold stepM
 refine good_ite (GoodX.err (by decide)) ?_
 dsimp only
 refine good_ite (GoodX.exE (ht.set _ (mread_lt _ _ _))) ?_
 refine good_ite (GoodX.exE ht) ?_
 refine good_ite (GoodX.exE (ht.set _ hta)) ?_
 refine good_ite (GoodX.exE ((ht.set _ (farM_lt _ _)).set _ (mread_lt _ _ _))) ?_
 refine good_ite (GoodX.exE ((ht.set _ (farM_lt _ _)).at_ (mread_lt _ _ _))) ?_
 refine good_ite (GoodX.ok_ (ht.at_ (farM_lt _ _))) ?_
 refine good_ite (GoodX.ok_ (okIte (ht.at_ (farM_lt _ _)) ht)) ?_
 refine good_ite ?_ (execM_ok x ht)
 refine good_ite (GoodX.err (by decide)) (GoodX.exE (lostM_ok ht ?_))
 have:=callM_lt h (idM (farM next x.rel)) (s.reg 7) (s.reg 6) (s.reg 2) (s.reg 1)
 omega
theorem rex_bits:∀n:Nat,n<256→(bits .and .u8 (n:Int) 240==64)=(decide (0x40≤n)&&decide (n<0x50)):=by decide+kernel
theorem high_bits:∀n:Nat,n<256→(bits .and .u8 (n:Int) 8 !=0)=decide (n/8%2=1)∧bits .and .i64 ((n:Int)/4) 1=((n/4%2:Nat):Int)∧bits .and .i64 (n:Int) 1=((n%2:Nat):Int):=by decide+kernel
theorem op_bits:∀n:Nat,n<256→bits .and .i64 (n:Int) 15=((n%16:Nat):Int)∧bits .and .i64 (n:Int) 7=((n%8:Nat):Int)∧bits .and .i64 ((n:Int)/8) 7=((n/8%8:Nat):Int):=by decide+kernel
def highM(s:List UInt8):Nat:=if rexAt s then takeN s 1 else 0
def restM(s:List UInt8):List UInt8:=if rexAt s then s.drop 1 else s
theorem highM_lt(s):highM s<256:=by unfold highM;split;exact take1_lt s;decide
theorem GSt.take1{w0 w b x f}{s:List UInt8}(h:GSt w0 b x f s w):
  Calls prog 101 #[.pointer (some ⟨b+1+1,0,none⟩), .int .i64 1] w fun e w'=>e= .returned (.int .u64 (takeN s 1))∧Hid (GSt w0 b x f (s.drop 1) w'):=h.take 1 (by decide)
theorem byte_i64{m:Nat}(h:m<256):IntKind.i64.wrap (m:Int)=m:=IntWalk.i64_in _ (by omega)
theorem byte_w64{m:Nat}(h:m<256):wrap64 (m:Int)=m:=IntWalk.wrap64_in _ (by omega)
theorem reg_lt{a}(h:a<2)(m):a*8+m%8<256:=by omega
theorem GSt.signed1{w0 w b x f}{s:List UInt8}(h:GSt w0 b x f s w):
  Calls prog 102 #[.pointer (some ⟨b+1+1,0,none⟩), .int .i64 1] w fun e w'=>e= .returned (.int .i64 (signI (takeN s 1) 8))∧Hid (GSt w0 b x f (s.drop 1) w'):=h.signed 1 (.inl rfl)
theorem GSt.signed4{w0 w b x f}{s:List UInt8}(h:GSt w0 b x f s w):
  Calls prog 102 #[.pointer (some ⟨b+1+1,0,none⟩), .int .i64 4] w fun e w'=>e= .returned (.int .i64 (signI (takeN s 4) 32))∧Hid (GSt w0 b x f (s.drop 4) w'):=h.signed 4 (.inr (.inl rfl))
theorem guess_any(k:Nat)(hk:k<22)(s:List UInt8)(hl:s.length≤1000000)(w:World)(h:MachAt w):
  Calls prog 66 #[.string (bA' s), .int .i64 k] w fun e w'=>e= .returned (guessM s k).agg∧Fr No w w':=by
 obtain ⟨f0,f1,f2,f3,f4,f5,f6,hg⟩:=h.form k hk
 rw [Nat.mul_comm 7 k] at f0 f1 f2 f3 f4 f5 f6
 have hk1:¬(22:Int)≤(k:Int):=by omega
 generalize hf:formsL.getD k FI.none=f at*
 have HS0:Hid (∀t1 t2 t3 t4,_):=GSt.start (w:=w) (k:=k) (f:=f) hl
 obtain ⟨op,bh,dg,al,mm,fw,fn⟩:=f
 simp only at f0 f1 f2 f3 f4 f5 f6
 obtain ⟨Q,hQ⟩:∃Q,guessM s k=Q:=⟨_,rfl⟩
 rw [hQ]
 have HQ0:=Lib.hid hQ
 clear hQ
 go_enter func66,ntmps66
 go_upto_region 3 with fail
 obtain ⟨W3,hW3⟩:∃W3,W3=(((w.alloc (Obj.cells #[.int .i64 0, .int .i64 0, .int .i64 0, .int .i64 0, .bool false, .bool false, .int .i64 0, .int .i64 0, .int .i32 0, .int .i32 0, .int .i64 0] 48)).alloc (Obj.cells #[.int .i64 k, .int .i64 0, .int .i64 0, .int .i64 0, .bool false, .bool false, .int .i64 0, .int .i64 0, .int .i32 0, .int .i32 0, .int .i64 0] 48)).alloc (Obj.cells #[.string (bA' s)] 200)):=⟨_,rfl⟩
 have hz3:W3.heap.size=w.heap.size+1+1+1:=by rw [hW3,size_alloc,size_alloc,size_alloc]
 have hf3:Fr No w W3:=by rw [hW3];exact ((fr_alloc _ _).alloc _).alloc _
 have f0:=hf3.cell f0 id
 have f1:=hf3.cell f1 id
 have f2:=hf3.cell f2 id
 have f3:=hf3.cell f3 id
 have f4:=hf3.cell f4 id
 have f5:=hf3.cell f5 id
 have f6:=hf3.cell f6 id
 have HG:Hid (GSt w w.heap.size {XI.zero with kind:=k} ⟨op,bh,dg,al,mm,fw,fn⟩ s (W3.alloc (Obj.cells #[.string (bA' op), .int .i64 bh, .int .i64 dg, .int .i64 al, .int .i64 mm, .bool fw, .bool fn] 202))):=by
  rw [hW3];exact HS0.out _ _ _ _
 have HZ:=Lib.hid hz3
 rw [←hW3]
 clear hW3 HS0 hz3 hf3
 go_upto_region 4 with fail
 rw [HZ.out]
 obtain ⟨W4,hW4⟩:∃W4,W4=W3.alloc (Obj.cells #[.string (bA' op), .int .i64 bh, .int .i64 dg, .int .i64 al, .int .i64 mm, .bool fw, .bool fn] 202):=⟨_,rfl⟩
 rw [←hW4] at HG ⊢
 clear hW4 f0 f1 f2 f3 f4 f5 f6 HZ hg h hl
 go_upto_region 5 with (go_at_call 100;refine (HG.out.prefix 0x66).mono ?_;rintro e w1 ⟨rfl,HG1⟩)
 clear HG
 obtain ⟨half,hhalf⟩:∃half,(s.head? ==some 0x66)=half:=⟨_,rfl⟩
 obtain ⟨s1,hs1⟩:∃s1,(if (s.head? ==some 0x66)=true then s.drop 1 else s)=s1:=⟨_,rfl⟩
 rw [hs1] at HG1
 rw [hhalf]
 obtain ⟨X,hX⟩:∃X:XI,X={XI.zero with kind:=(k:Int)}:=⟨_,rfl⟩
 obtain ⟨F,hF⟩:∃F:FI,F=⟨op,bh,dg,al,mm,fw,fn⟩:=⟨_,rfl⟩
 rw [←hX,←hF] at HG1
 have hrd:=HG1.out.rd.cell
 go_upto_region 6 with fail
 go_cut [39] from 26 to 38 (fun s39 wx=>s39= .bool (rexAt s1)∧w1=wx)
 case first=>
  cases s1 with
  |nil=>
   have e0:((bA' []).toList==([]:List UInt8))=true:=by rw [bA'_eq];rfl
   go_wp2_with fail
   go_meet
   exact ⟨rfl,rfl⟩
  |cons b t=>
   have e0:((bA' (b::t)).toList==([]:List UInt8))=false:=by rw [bA'_eq];rfl
   have e1:0<(bA' (b::t)).size:=by rw [sizeJ];simp
   have e2:(bits .and .u8 ((bA' (b::t))[0].toNat:Int) 240==64)=isRexB b:=rex_bits b.toNat b.toNat_lt
   have e3:rexAt (b::t)=isRexB b:=rfl
   clear hs1 e3
   go_wp2_with fail
   go_meet
   exact ⟨rfl,rfl⟩
 case rest=>
 obtain ⟨rfl,rfl⟩:=hcut
 obtain ⟨rx,hrx⟩:∃rx,rexAt s1=rx:=⟨_,rfl⟩
 have HT:=Lib.hid (HG1.out.take1)
 have h1:=take1_lt s1
 have eh:IntKind.u8.wrap ((takeN s1 1:Nat):Int)=((takeN s1 1:Nat):Int):=IntWalk.u8_in _ (by omega)
 have eh2:((takeN s1 1:Nat):Int)%256=((takeN s1 1:Nat):Int):=by omega
 have HH:Hid (highM s1=if rx=true then takeN s1 1 else 0):=by rw [←hrx];exact Lib.hid rfl
 have HR:Hid (restM s1=if rx=true then s1.drop 1 else s1):=by rw [←hrx];exact Lib.hid rfl
 rw [hrx]
 go_upto_if 39 with fail
 go_cut [9] from 40 to 42 (fun s9 wx=>s9= .int .u8 (highM s1)∧Hid (GSt w w.heap.size X F (restM s1) wx))
 case first=>
  cases rx with
  |false=>
   go_wp2_with fail
   go_meet
   exact ⟨by rw [HH.out];rfl,by rw [HR.out];exact HG1⟩
  |true=>
   go_wp2_with (go_at_call 101;(with_reducible refine (HT.out).mono ?_);rintro e w2 ⟨rfl,HG2⟩)
   go_meet
   exact ⟨by rw [HH.out];rfl,by rw [HR.out];exact HG2⟩
 case rest=>
 obtain ⟨rfl,HG2⟩:=hcut
 clear HT HH HR eh eh2 h1 HG1 hrd
 have hlt:=highM_lt s1
 obtain ⟨hb1,hb2,hb3⟩:=high_bits (highM s1) hlt
 generalize hhi:highM s1=high at*
 generalize hs2:restM s1=s2 at*
 have ew:IntKind.i64.wrap (high:Int)=high:=IntWalk.i64_in _ (by omega)
 obtain ⟨wd,hwd⟩:∃wd,decide (high/8%2=1)=wd:=⟨_,rfl⟩
 obtain ⟨mA,hmA⟩:∃mA,high/4%2=mA:=⟨_,rfl⟩
 obtain ⟨mB,hmB⟩:∃mB,high%2=mB:=⟨_,rfl⟩
 have lA:mA<2:=by omega
 have lB:mB<2:=by omega
 have wA:wrap64 ((mA:Int)*8)=(mA:Int)*8:=IntWalk.wrap64_in _ (by omega)
 rw [hwd] at hb1
 rw [hmA] at hb2
 rw [hmB] at hb3
 have HW:=Lib.hid hwd
 have HA:=Lib.hid hmA
 have HB:=Lib.hid hmB
 obtain ⟨c0,c1,c2,c3,c4,c5,c6,c7,c8,c9,c10⟩:=XI.at HG2.out.x
 have o1:=HG2.out.open1
 clear hlt hwd hmA hmB
 go_upto_region 10 with fail
 obtain ⟨X1,hX1⟩:∃X1:XI,X1={XI.zero with kind:=(k:Int),wide:=wd}:=⟨_,rfl⟩
 have HG3:Hid (GSt w w.heap.size X1 F s2 (wc.setCell ⟨w.heap.size+1,4,none⟩ (.bool wd))):=HG2.out.set (by decide) (by rw [hX,hX1];rfl)
 obtain ⟨w3,hw3⟩:∃w3,w3=wc.setCell ⟨w.heap.size+1,4,none⟩ (.bool wd):=⟨_,rfl⟩
 rw [←hw3] at HG3 ⊢
 clear hw3 c0 c1 c2 c3 c4 c5 c6 c7 c8 c9 c10 o1 HG2 hb1 hb2 hb3 ew
 go_upto_region 11 with (go_at_call 100;refine (HG3.out.prefix 0x0f).mono ?_;rintro e w4 ⟨rfl,HG4⟩)
 clear HG3
 obtain ⟨two,htwo⟩:∃two,(s2.head? ==some 0x0f)=two:=⟨_,rfl⟩
 obtain ⟨s3,hs3⟩:∃s3,(if (s2.head? ==some 0x0f)=true then s2.drop 1 else s2)=s3:=⟨_,rfl⟩
 rw [hs3] at HG4
 rw [htwo]
 have HT:=Lib.hid (HG4.out.take1)
 have hop:=take1_lt s3
 have e5:IntKind.i64.wrap ((takeN s3 1:Nat):Int)=((takeN s3 1:Nat):Int):=IntWalk.i64_in _ (by omega)
 have e6:wrap64 ((takeN s3 1:Nat):Int)=((takeN s3 1:Nat):Int):=IntWalk.wrap64_in _ (by omega)
 go_upto_region 12 with (go_at_call 101;(with_reducible refine (HT.out).mono ?_);rintro e w5 ⟨rfl,HG5⟩)
 clear HT e5 e6 HG4
 have HC:Hid (cutM0 s=⟨half,high,two,takeN s3 1,s3.drop 1⟩):=by
  have e:cutM0 s=⟨s.head? ==some 0x66,highM (if (s.head? ==some 0x66)=true then s.drop 1 else s),(restM (if (s.head? ==some 0x66)=true then s.drop 1 else s)).head? ==some 0x0f,takeN (if ((restM (if (s.head? ==some 0x66)=true then s.drop 1 else s)).head? ==some 0x0f)=true then (restM (if (s.head? ==some 0x66)=true then s.drop 1 else s)).drop 1 else restM (if (s.head? ==some 0x66)=true then s.drop 1 else s)) 1,(if ((restM (if (s.head? ==some 0x66)=true then s.drop 1 else s)).head? ==some 0x0f)=true then (restM (if (s.head? ==some 0x66)=true then s.drop 1 else s)).drop 1 else restM (if (s.head? ==some 0x66)=true then s.drop 1 else s)).drop 1⟩:=rfl
  rw [e,hs1,hhi,hs2,hs3,hhalf,htwo]
  exact Lib.hid rfl
 clear hs1 hhi hs2 hs3 hhalf htwo hrx f0 f1 f2 f3 f4 f5 f6
 generalize takeN s3 1=o at*
 generalize s3.drop 1=R at*
 have HQ:Hid (Q=guessC ⟨half,high,two,o,R⟩ k):=by
  have e:guessM s k=guessC (cutM0 s) k:=rfl
  rw [←HQ0.out,e,HC.out]
  exact Lib.hid rfl
 clear HQ0 HC
 have HX1:=Lib.hid hX1
 clear hX1
 by_cases h21:k=21
 ·have HD:Hid (Q=X1):=by rw [HQ.out,HX1.out,←HW.out,h21];exact Lib.hid rfl
  subst h21
  obtain ⟨c0,c1,c2,c3,c4,c5,c6,c7,c8,c9,c10⟩:=XI.at HG5.out.x
  obtain ⟨r0,r1,r2,r3,r4,r5,r6,r7,r8,r9,r10⟩:=XI.at HG5.out.res
  have o0:=HG5.out.open0
  have HPX:=Lib.hid (HG5.out.put X1)
  go_wp2_with fail
  have HP2:Hid (putX w5 w.heap.size X1=_):=Lib.hid rfl
  obtain ⟨W6,hW6⟩:∃W6,W6=putX w5 w.heap.size X1:=⟨_,rfl⟩
  rw [←hW6] at HPX
  have g:=XI.at HPX.out.1
  refine Eq.mp (congrArg (fun W=>bodyPost prog Tryz.f66 _ Exit.ret _ W) (show W6=_ from hW6)) ?_
  clear c0 c1 c2 c3 c4 c5 c6 c7 c8 c9 c10 r0 r1 r2 r3 r4 r5 r6 r7 r8 r9 r10 hW6 HP2
  obtain ⟨c0,c1,c2,c3,c4,c5,c6,c7,c8,c9,c10⟩:=g
  refine bodyPost_ret (v:=X1.agg) (by simp [results,results66,go_sem,XI.agg, *]) rfl ⟨by rw [HD.out],HPX.out.2⟩
 obtain ⟨sh,hsh⟩:∃sh:Bool,(if k=16 then !two else if k=15 then decide (o=0xeb) else false)=sh:=⟨_,rfl⟩
 obtain ⟨cd,hcd⟩:∃cd:Int,(if k=16 then ((o%16:Nat):Int) else 0)=cd:=⟨_,rfl⟩
 obtain ⟨a0,ha0⟩:∃a0:Int,(if k=4 then ((o/8:Nat):Int) else 0)=a0:=⟨_,rfl⟩
 obtain ⟨X2,hX2⟩:∃X2:XI,X2={XI.zero with kind:=(k:Int),wide:=wd,short:=sh,cond:=cd,alu:=a0}:=⟨_,rfl⟩
 have HX2:=Lib.hid hX2
 have HSH:=Lib.hid hsh
 have HCD:=Lib.hid hcd
 have HA0:=Lib.hid ha0
 clear hX2 hsh hcd ha0
 obtain ⟨ob1,ob2,ob3⟩:=op_bits o hop
 have HOP:=Lib.hid hop
 obtain ⟨m15,hm15⟩:∃m,o%16=m:=⟨_,rfl⟩
 obtain ⟨m7,hm7⟩:∃m,o%8=m:=⟨_,rfl⟩
 rw [hm15] at ob1
 rw [hm7] at ob2
 have HM15:=Lib.hid hm15
 have HM7:=Lib.hid hm7
 clear hop ob3 hm15 hm7
 go_upto_block 0 with fail
 go_cut [61] from 62 to 82 (fun s61 wx=>s61= .int .i64 k∧Hid (GSt w w.heap.size X2 F R wx))
 case first=>
  obtain ⟨c0,c1,c2,c3,c4,c5,c6,c7,c8,c9,c10⟩:=XI.at HG5.out.x
  have o1:=HG5.out.open1
  by_cases k16:k=16
  ·subst k16
   have e1:cd=(m15:Int):=by rw [←HCD.out,←HM15.out];rfl
   have e2:sh= !two:=by rw [←HSH.out];rfl
   have e3:a0=0:=by rw [←HA0.out];rfl
   have HE:Hid (GSt w w.heap.size X2 F R ((w5.setCell ⟨w.heap.size+1,2,none⟩ (.int .i64 m15)).setCell ⟨w.heap.size+1,5,none⟩ (.bool (!two)))):=
    (HG5.out.set (x':={X1 with cond:=(m15:Int)}) (by decide) rfl).set (by decide) (by rw [HX2.out,HX1.out,e1,e2,e3];rfl)
   clear e1 e2 e3
   go_wp2_with fail
   go_meet
   exact ⟨rfl,HE⟩
  by_cases k15:k=15
  ·subst k15
   have e1:cd=0:=by rw [←HCD.out];rfl
   obtain ⟨q,hq⟩:∃q,((o:Int)==235)=q:=⟨_,rfl⟩
   have e2:sh=q:=by rw [←HSH.out,←hq,Bool.eq_iff_iff,beq_iff_eq];simp;omega
   have e3:a0=0:=by rw [←HA0.out];rfl
   have HE:Hid (GSt w w.heap.size X2 F R (w5.setCell ⟨w.heap.size+1,5,none⟩ (.bool q))):=
    HG5.out.set (by decide) (by rw [HX2.out,HX1.out,e1,e2,e3];rfl)
   clear e1 e2 e3
   go_wp2_with fail
   go_meet
   exact ⟨rfl,HE⟩
  by_cases k4:k=4
  ·subst k4
   have e1:cd=0:=by rw [←HCD.out];rfl
   have e2:sh=false:=by rw [←HSH.out];rfl
   have e3:a0=((o/8:Nat):Int):=by rw [←HA0.out];rfl
   have HE:Hid (GSt w w.heap.size X2 F R (w5.setCell ⟨w.heap.size+1,1,none⟩ (.int .i64 ((o:Int)/8)))):=
    HG5.out.set (by decide) (by rw [HX2.out,HX1.out,e1,e2,e3];rfl)
   clear e1 e2 e3
   go_wp2_with fail
   go_meet
   exact ⟨rfl,HE⟩
  ·have q1:((k:Int)==16)=false:=by rw [beq_eq_false_iff_ne];omega
   have q2:((k:Int)==15)=false:=by rw [beq_eq_false_iff_ne];omega
   have q3:((k:Int)==4)=false:=by rw [beq_eq_false_iff_ne];omega
   have q4:((k:Int)==21)=false:=by rw [beq_eq_false_iff_ne];omega
   have e1:cd=0:=by rw [←HCD.out,if_neg k16]
   have e2:sh=false:=by rw [←HSH.out,if_neg k16,if_neg k15]
   have e3:a0=0:=by rw [←HA0.out,if_neg k4]
   have HE:Hid (GSt w w.heap.size X2 F R w5):=by
    have:X2=X1:=by rw [HX2.out,HX1.out,e1,e2,e3];rfl
    rw [this];exact HG5
   clear e1 e2 e3
   go_wp2_with fail
   go_meet
   exact ⟨rfl,HE⟩
 case rest=>
 obtain ⟨rfl,HG6⟩:=hcut
 clear HG5 HX1 ob1 HM15
 subst hF
 obtain ⟨g0,g1,g2,g3,g4,g5,g6⟩:=fi_at HG6.out.f
 simp only at g0 g1 g2 g3 g4 g5 g6
 obtain ⟨⟨X3,R3⟩,hX3⟩:∃q:XI×List UInt8,stepC ⟨op,bh,dg,al,mm,fw,fn⟩ o two half wd sh (mA*8) (mB*8) R X2=q:=⟨_,rfl⟩
 have HQ2:Hid (Q=if 0<mm then {X3 with imm:=signI (takeN R3 mm) (8*mm)} else X3):=by
  rw [HQ.out,guessC_step h21,hf]
  simp only [HSH.out,HCD.out,HA0.out,HW.out,HA.out,HB.out,←HX2.out,hX3]
  exact Lib.hid trivial
 have HX3:=Lib.hid hX3
 have HX2':Hid (X2.wide=wd∧X2.short=sh∧X2.alu=a0):=by rw [HX2.out];exact ⟨rfl,rfl,rfl⟩
 clear hX3 HQ HSH HCD HA0 HW HA HB HX2
 go_upto_block 1 with fail
 go_cut [10,11,14,15] from 85 to 175 (fun _ _ _ _ wx=>Hid (GSt w w.heap.size X3 ⟨op,bh,dg,al,mm,fw,fn⟩ R3 wx))
 case first=>
  obtain ⟨c0,c1,c2,c3,c4,c5,c6,c7,c8,c9,c10⟩:=XI.at HG6.out.x
  have o1:=HG6.out.open1
  have hbh:bh≤7:=by have:=(forms_behind k).1;rw [hf] at this;exact this
  rw [HX2'.out.2.1] at c5
  rw [HX2'.out.1] at c4
  have HC0:Hid (_∧_∧_∧_∧_∧_∧_∧_∧_∧_):=⟨c0,c1,c2,c3,c5,c6,c7,c8,c9,c10⟩
  by_cases b4:bh=4
  ·subst b4
   have ob:=or_bits mB lB m7 (by rw [←HM7.out];exact Nat.mod_lt _ (by decide))
   have HE:Hid (GSt w w.heap.size X3 ⟨op,4,dg,al,mm,fw,fn⟩ R3 (wc.setCell ⟨w.heap.size+1,6,none⟩ (.int .i64 ((mB*8+m7:Nat):Int)))):=by
    have e:=HX3.out
    unfold stepC at e
    rw [if_pos rfl,HM7.out] at e
    obtain ⟨rfl,rfl⟩:=Prod.mk.inj e
    exact HG6.out.set (by decide) rfl
   generalize mB*8+m7=V at*
   go_wp2_with fail
   go_meet
   exact HE
  by_cases b7:bh=7
  ·subst b7
   have e:=HX3.out
   unfold stepC at e
   rw [if_neg (show¬7=4 by decide),if_pos rfl] at e
   obtain ⟨hx,hr⟩:=Prod.mk.inj e
   cases sh with
   |true=>
    have HS:=Lib.hid (HG6.out.signed1)
    have hb:=sign8' (takeN R 1)
    have e1:wrap32 (signI (takeN R 1) 8)=signI (takeN R 1) 8:=IntWalk.wrap32_in _ hb
    have HE:Hid (∀W,GSt w w.heap.size X2 ⟨op,7,dg,al,mm,fw,fn⟩ (R.drop 1) W→GSt w w.heap.size X3 ⟨op,7,dg,al,mm,fw,fn⟩ R3 (W.setCell ⟨w.heap.size+1,9,none⟩ (.int .i32 (signI (takeN R 1) 8)))):=fun W h=>by
     rw [←hx,←hr];exact h.set (by decide) rfl
    clear e hx hr hb
    generalize signI (takeN R 1) 8=V at*
    go_wp2_with (go_at_call 102;(with_reducible refine (HS.out).mono ?_);rintro e w6 ⟨rfl,HG7⟩;obtain ⟨d0,d1,d2,d3,d4,d5,d6,d7,d8,d9,d10⟩:=XI.at HG7.out.x;have o2:=HG7.out.open1)
    go_meet
    exact HE.out _ HG7.out
   |false=>
    have HS:=Lib.hid (HG6.out.signed4)
    have hb:=sign32 (takeN R 4)
    have e1:wrap32 (signI (takeN R 4) 32)=signI (takeN R 4) 32:=IntWalk.wrap32_in _ hb
    have HE:Hid (∀W,GSt w w.heap.size X2 ⟨op,7,dg,al,mm,fw,fn⟩ (R.drop 4) W→GSt w w.heap.size X3 ⟨op,7,dg,al,mm,fw,fn⟩ R3 (W.setCell ⟨w.heap.size+1,9,none⟩ (.int .i32 (signI (takeN R 4) 32)))):=fun W h=>by
     rw [←hx,←hr];exact h.set (by decide) rfl
    clear e hx hr hb
    generalize signI (takeN R 4) 32=V at*
    go_wp2_with (go_at_call 102;(with_reducible refine (HS.out).mono ?_);rintro e w6 ⟨rfl,HG7⟩;obtain ⟨d0,d1,d2,d3,d4,d5,d6,d7,d8,d9,d10⟩:=XI.at HG7.out.x;have o2:=HG7.out.open1)
    go_meet
    exact HE.out _ HG7.out
  by_cases b0:bh=0
  ·subst b0
   have HE:Hid (GSt w w.heap.size X3 ⟨op,0,dg,al,mm,fw,fn⟩ R3 wc):=by
    have e:=HX3.out
    unfold stepC at e
    rw [if_neg (show¬0=4 by decide),if_neg (show¬0=7 by decide),if_pos rfl] at e
    obtain ⟨rfl,rfl⟩:=Prod.mk.inj e
    exact HG6
   go_wp2_with fail
   go_meet
   exact HE
  ·obtain ⟨M,hM⟩:∃M,takeN R 1=M:=⟨_,rfl⟩
   have hMl:=take1_lt R
   rw [hM] at hMl
   have HT:Hid (Calls prog 101 #[.pointer (some ⟨w.heap.size+1+1,0,none⟩), .int .i64 1] wc fun e w'=>e= .returned (.int .u64 M)∧Hid (GSt w w.heap.size X2 ⟨op,bh,dg,al,mm,fw,fn⟩ (R.drop 1) w')):=by
    rw [←hM];exact HG6.out.take1
   obtain ⟨_,mb2,mb3⟩:=op_bits M hMl
   have em1:IntKind.i64.wrap (M:Int)=M:=byte_i64 hMl
   have em2:wrap64 (M:Int)=M:=byte_w64 hMl
   obtain ⟨M8,hM8⟩:∃m,M/8%8=m:=⟨_,rfl⟩
   obtain ⟨M7,hM7⟩:∃m,M%8=m:=⟨_,rfl⟩
   rw [hM7] at mb2
   rw [hM8] at mb3
   have ma:=or_bits mA lA M8 (by rw [←hM8];exact Nat.mod_lt _ (by decide))
   have mb:=or_bits mB lB M7 (by rw [←hM7];exact Nat.mod_lt _ (by decide))
   obtain ⟨MID,hMID⟩:∃m,mA*8+M8=m:=⟨_,rfl⟩
   obtain ⟨FIN,hFIN⟩:∃m,mB*8+M7=m:=⟨_,rfl⟩
   rw [hMID] at ma
   rw [hFIN] at mb
   obtain ⟨_,mc,_⟩:=op_bits MID (by rw [←hMID,←hM8];exact reg_lt lA _)
   obtain ⟨_,md,_⟩:=op_bits FIN (by rw [←hFIN,←hM7];exact reg_lt lB _)
   obtain ⟨D7,hD7⟩:∃m,MID%8=m:=⟨_,rfl⟩
   obtain ⟨F7,hF7⟩:∃m,FIN%8=m:=⟨_,rfl⟩
   rw [hD7] at mc
   rw [hF7] at md
   have HM:=Lib.hid hM
   have HMID:Hid (mA*8+M/8%8=MID):=by rw [hM8];exact Lib.hid hMID
   have HFIN:Hid (mB*8+M%8=FIN):=by rw [hM7];exact Lib.hid hFIN
   have HD7:=Lib.hid hD7
   have HF7:=Lib.hid hF7
   clear hM hMl hM8 hM7 hMID hFIN hD7 hF7 lA lB wA ob2 HM7 HC0 c0 c1 c2 c3 c4 c5 c6 c7 c8 c9 c10 o1 HOP
   by_cases b1:bh=1
   ·subst b1
    have HE:Hid (∀W,GSt w w.heap.size X2 ⟨op,1,dg,al,mm,fw,fn⟩ (R.drop 1) W→GSt w w.heap.size X3 ⟨op,1,dg,al,mm,fw,fn⟩ R3 ((W.setCell ⟨w.heap.size+1,6,none⟩ (.int .i64 FIN)).setCell ⟨w.heap.size+1,7,none⟩ (.int .i64 MID))):=fun W h=>by
     have e:=HX3.out
     unfold stepC at e
     rw [if_neg (show¬1=4 by decide),if_neg (show¬1=7 by decide),if_neg (show¬1=0 by decide),HM.out] at e
     simp only [HMID.out,HFIN.out] at e
     obtain ⟨rfl,rfl⟩:=Prod.mk.inj e
     exact (h.set (x':={X2 with dst:=(FIN:Int)}) (by decide) rfl).set (by decide) rfl
    go_wp2_with (go_at_call 101;(with_reducible refine (HT.out).mono ?_);rintro e w6 ⟨rfl,HG7⟩;obtain ⟨d0,d1,d2,d3,d4,d5,d6,d7,d8,d9,d10⟩:=XI.at HG7.out.x;obtain ⟨p0,p1,p2,p3,p4,p5,p6⟩:=fi_at HG7.out.f;have o2:=HG7.out.open1)
    go_meet
    exact HE.out _ HG7.out
   by_cases b2:bh=2
   ·subst b2
    have HE:Hid (∀W,GSt w w.heap.size X2 ⟨op,2,dg,al,mm,fw,fn⟩ (R.drop 1) W→GSt w w.heap.size X3 ⟨op,2,dg,al,mm,fw,fn⟩ R3 ((W.setCell ⟨w.heap.size+1,6,none⟩ (.int .i64 MID)).setCell ⟨w.heap.size+1,7,none⟩ (.int .i64 FIN))):=fun W h=>by
     have e:=HX3.out
     unfold stepC at e
     rw [if_neg (show¬2=4 by decide),if_neg (show¬2=7 by decide),if_neg (show¬2=0 by decide),HM.out] at e
     simp only [HMID.out,HFIN.out] at e
     obtain ⟨rfl,rfl⟩:=Prod.mk.inj e
     exact (h.set (x':={X2 with dst:=(MID:Int)}) (by decide) rfl).set (by decide) rfl
    go_wp2_with (go_at_call 101;(with_reducible refine (HT.out).mono ?_);rintro e w6 ⟨rfl,HG7⟩;obtain ⟨d0,d1,d2,d3,d4,d5,d6,d7,d8,d9,d10⟩:=XI.at HG7.out.x;obtain ⟨p0,p1,p2,p3,p4,p5,p6⟩:=fi_at HG7.out.f;have o2:=HG7.out.open1)
    go_meet
    exact HE.out _ HG7.out
   by_cases b3:bh=3
   ·subst b3
    by_cases ha:al=0
    ·subst ha
     have HE:Hid (∀W,GSt w w.heap.size X2 ⟨op,3,dg,0,mm,fw,fn⟩ (R.drop 1) W→GSt w w.heap.size X3 ⟨op,3,dg,0,mm,fw,fn⟩ R3 (W.setCell ⟨w.heap.size+1,6,none⟩ (.int .i64 FIN))):=fun W h=>by
      have e:=HX3.out
      unfold stepC at e
      rw [if_neg (show¬3=4 by decide),if_neg (show¬3=7 by decide),if_neg (show¬3=0 by decide),HM.out] at e
      simp only [HMID.out,HFIN.out] at e
      obtain ⟨rfl,rfl⟩:=Prod.mk.inj e
      exact h.set (by decide) rfl
     go_wp2_with (go_at_call 101;(with_reducible refine (HT.out).mono ?_);rintro e w6 ⟨rfl,HG7⟩;obtain ⟨d0,d1,d2,d3,d4,d5,d6,d7,d8,d9,d10⟩:=XI.at HG7.out.x;obtain ⟨p0,p1,p2,p3,p4,p5,p6⟩:=fi_at HG7.out.f;have o2:=HG7.out.open1)
     go_meet
     exact HE.out _ HG7.out
    ·have ha':((al:Int)==0)=false:=by rw [beq_eq_false_iff_ne];omega
     have HE:Hid (∀W,GSt w w.heap.size X2 ⟨op,3,dg,al,mm,fw,fn⟩ (R.drop 1) W→GSt w w.heap.size X3 ⟨op,3,dg,al,mm,fw,fn⟩ R3 ((W.setCell ⟨w.heap.size+1,1,none⟩ (.int .i64 D7)).setCell ⟨w.heap.size+1,6,none⟩ (.int .i64 FIN))):=fun W h=>by
      have e:=HX3.out
      unfold stepC at e
      rw [if_neg (show¬3=4 by decide),if_neg (show¬3=7 by decide),if_neg (show¬3=0 by decide),HM.out] at e
      simp only [HMID.out,HFIN.out] at e
      rw [if_neg (show¬3=1 by decide),if_neg (show¬3=2 by decide)] at e
      simp only [if_true,true_and,ne_eq,ha,not_false_eq_true,HD7.out] at e
      obtain ⟨rfl,rfl⟩:=Prod.mk.inj e
      exact (h.set (x':={X2 with alu:=(D7:Int)}) (by decide) rfl).set (by decide) rfl
     go_wp2_with (go_at_call 101;(with_reducible refine (HT.out).mono ?_);rintro e w6 ⟨rfl,HG7⟩;obtain ⟨d0,d1,d2,d3,d4,d5,d6,d7,d8,d9,d10⟩:=XI.at HG7.out.x;obtain ⟨p0,p1,p2,p3,p4,p5,p6⟩:=fi_at HG7.out.f;have o2:=HG7.out.open1)
     go_meet
     exact HE.out _ HG7.out
   obtain b56|b56:bh=5∨bh=6:=by omega
   ·subst b56
    obtain ⟨SZ,hSZ⟩:∃SZ,sizeOfM 5 o two half wd=SZ:=⟨_,rfl⟩
    have HZ:Hid (∀W,Calls prog 103 #[.int .i64 5, .int .i64 o, .bool two, .bool half, .bool wd] W fun e w'=>e= .returned (.int .i64 SZ)∧W=w'):=fun W=>by rw [←hSZ];exact csize_any 5 o two half wd W
    obtain ⟨X5,hX5⟩:∃X5:XI,X5={X2 with size:=SZ,dst:=(MID:Int),src:=(FIN:Int)}:=⟨_,rfl⟩
    have HE5:Hid (∀W,GSt w w.heap.size X2 ⟨op,5,dg,al,mm,fw,fn⟩ (R.drop 1) W→GSt w w.heap.size X5 ⟨op,5,dg,al,mm,fw,fn⟩ (R.drop 1) (((W.setCell ⟨w.heap.size+1,3,none⟩ (.int .i64 SZ)).setCell ⟨w.heap.size+1,6,none⟩ (.int .i64 (MID:Nat))).setCell ⟨w.heap.size+1,7,none⟩ (.int .i64 (FIN:Nat)))):=fun W h=>by
     rw [hX5];exact ((h.set (x':={X2 with size:=SZ}) (by decide) rfl).set (x':={X2 with size:=SZ,dst:=(MID:Int)}) (by decide) rfl).set (x':={X2 with size:=SZ,dst:=(MID:Int),src:=(FIN:Int)}) (by decide) rfl
    obtain ⟨R5,hR5⟩:∃R5,(if FIN%8=4 then (R.drop 1).drop 1 else R.drop 1)=R5:=⟨_,rfl⟩
    have e:=HX3.out
    unfold stepC at e
    rw [if_neg (show¬5=4 by decide),if_neg (show¬5=7 by decide),if_neg (show¬5=0 by decide),HM.out] at e
    simp only [HMID.out,HFIN.out] at e
    rw [if_neg (show¬5=1 by decide),if_neg (show¬5=2 by decide),if_neg (show¬5=3 by decide),hR5,hSZ] at e
    obtain ⟨hx,hr⟩:=Prod.mk.inj e
    have hR5':=Lib.hid hR5
    have HE:Hid (∀W,GSt w w.heap.size X5 ⟨op,5,dg,al,mm,fw,fn⟩ (R5.drop 4) W→GSt w w.heap.size X3 ⟨op,5,dg,al,mm,fw,fn⟩ R3 (W.setCell ⟨w.heap.size+1,8,none⟩ (.int .i32 (signI (takeN R5 4) 32)))):=fun W h=>by
     rw [←hx,←hr,hX5] at*;exact h.set (by decide) (by first|rfl|simp [XI.cells])
    clear e hx hr hX5 hR5 hSZ
    go_upto_region 39 with (first
     |(go_at_call 101;(with_reducible refine (HT.out).mono ?_);rintro e w6 ⟨rfl,HG7⟩;obtain ⟨d0,d1,d2,d3,d4,d5,d6,d7,d8,d9,d10⟩:=XI.at HG7.out.x;rw [HX2'.out.1] at d4;obtain ⟨p0,p1,p2,p3,p4,p5,p6⟩:=fi_at HG7.out.f;have o2:=HG7.out.open1)
     |(go_at_call 103;(with_reducible refine (HZ.out _).mono ?_);rintro e w7 ⟨rfl,rfl⟩))
    have HG8:=Lib.hid (HE5.out _ HG7.out)
    clear HT HG6 HZ HE5
    obtain ⟨W8,hW8⟩:∃W8,W8=((w6.setCell ⟨w.heap.size+1,3,none⟩ (.int .i64 SZ)).setCell ⟨w.heap.size+1,6,none⟩ (.int .i64 (MID:Nat))).setCell ⟨w.heap.size+1,7,none⟩ (.int .i64 (FIN:Nat)):=⟨_,rfl⟩
    rw [←hW8] at HG8 ⊢
    clear hW8 d0 d1 d2 d3 d4 d5 d6 d7 d8 d9 d10 p0 p1 p2 p3 p4 p5 p6 o2
    have HT8:=Lib.hid (HG8.out.take1)
    by_cases h4:FIN%8=4
    ·obtain rfl:F7=4:=by rw [←HF7.out];exact h4
     have HG9:Hid (∀W,GSt w w.heap.size X5 ⟨op,5,dg,al,mm,fw,fn⟩ ((R.drop 1).drop 1) W→GSt w w.heap.size X5 ⟨op,5,dg,al,mm,fw,fn⟩ R5 W):=fun W h=>by rw [←hR5'.out,if_pos h4];exact h
     clear hR5' h4
     have hb:=sign32 (takeN R5 4)
     have e1:wrap32 (signI (takeN R5 4) 32)=signI (takeN R5 4) 32:=IntWalk.wrap32_in _ hb
     have HS:Hid (∀W,GSt w w.heap.size X5 ⟨op,5,dg,al,mm,fw,fn⟩ R5 W→Calls prog 102 #[.pointer (some ⟨w.heap.size+1+1,0,none⟩), .int .i64 4] W fun e w'=>e= .returned (.int .i64 (signI (takeN R5 4) 32))∧Hid (GSt w w.heap.size X5 ⟨op,5,dg,al,mm,fw,fn⟩ (R5.drop 4) w')):=fun W h=>h.signed4
     clear hb
     generalize signI (takeN R5 4) 32=V at*
     go_wp2_with (first
      |(go_at_call 101;(with_reducible refine (HT8.out).mono ?_);rintro e w9 ⟨rfl,HGA⟩)
      |(go_at_call 102;(with_reducible refine (HS.out _ (HG9.out _ HGA.out)).mono ?_);rintro e wA ⟨rfl,HGB⟩;obtain ⟨d0,d1,d2,d3,d4,d5,d6,d7,d8,d9,d10⟩:=XI.at HGB.out.x;have o2:=HGB.out.open1))
     go_meet
     exact HE.out _ HGB.out
    ·have hF7n:((F7:Int)==4)=false:=by rw [beq_eq_false_iff_ne];have:=HF7.out;omega
     have HG9:Hid (GSt w w.heap.size X5 ⟨op,5,dg,al,mm,fw,fn⟩ R5 W8):=by rw [←hR5'.out,if_neg h4];exact HG8
     clear hR5' h4
     have hb:=sign32 (takeN R5 4)
     have e1:wrap32 (signI (takeN R5 4) 32)=signI (takeN R5 4) 32:=IntWalk.wrap32_in _ hb
     have HS:=Lib.hid (HG9.out.signed4)
     clear hb
     generalize signI (takeN R5 4) 32=V at*
     go_wp2_with (go_at_call 102;(with_reducible refine (HS.out).mono ?_);rintro e wA ⟨rfl,HGB⟩;obtain ⟨d0,d1,d2,d3,d4,d5,d6,d7,d8,d9,d10⟩:=XI.at HGB.out.x;have o2:=HGB.out.open1)
     go_meet
     exact HE.out _ HGB.out
   ·subst b56
    obtain ⟨SZ,hSZ⟩:∃SZ,sizeOfM 6 o two half wd=SZ:=⟨_,rfl⟩
    have HZ:Hid (∀W,Calls prog 103 #[.int .i64 6, .int .i64 o, .bool two, .bool half, .bool wd] W fun e w'=>e= .returned (.int .i64 SZ)∧W=w'):=fun W=>by rw [←hSZ];exact csize_any 6 o two half wd W
    obtain ⟨X5,hX5⟩:∃X5:XI,X5={X2 with size:=SZ,dst:=(FIN:Int),src:=(MID:Int)}:=⟨_,rfl⟩
    have HE5:Hid (∀W,GSt w w.heap.size X2 ⟨op,6,dg,al,mm,fw,fn⟩ (R.drop 1) W→GSt w w.heap.size X5 ⟨op,6,dg,al,mm,fw,fn⟩ (R.drop 1) (((((W.setCell ⟨w.heap.size+1,3,none⟩ (.int .i64 SZ)).setCell ⟨w.heap.size+1,6,none⟩ (.int .i64 (MID:Nat))).setCell ⟨w.heap.size+1,7,none⟩ (.int .i64 (FIN:Nat))).setCell ⟨w.heap.size+1,6,none⟩ (.int .i64 (FIN:Nat))).setCell ⟨w.heap.size+1,7,none⟩ (.int .i64 (MID:Nat)))):=fun W h=>by
     rw [hX5];exact ((((h.set (x':={X2 with size:=SZ}) (by decide) rfl).set (x':={X2 with size:=SZ,dst:=(MID:Int)}) (by decide) rfl).set (x':={X2 with size:=SZ,dst:=(MID:Int),src:=(FIN:Int)}) (by decide) rfl).set (x':={X2 with size:=SZ,dst:=(FIN:Int),src:=(FIN:Int)}) (by decide) rfl).set (x':={X2 with size:=SZ,dst:=(FIN:Int),src:=(MID:Int)}) (by decide) rfl
    obtain ⟨R5,hR5⟩:∃R5,(if FIN%8=4 then (R.drop 1).drop 1 else R.drop 1)=R5:=⟨_,rfl⟩
    have e:=HX3.out
    unfold stepC at e
    rw [if_neg (show¬6=4 by decide),if_neg (show¬6=7 by decide),if_neg (show¬6=0 by decide),HM.out] at e
    simp only [HMID.out,HFIN.out] at e
    rw [if_neg (show¬6=1 by decide),if_neg (show¬6=2 by decide),if_neg (show¬6=3 by decide),hR5,hSZ] at e
    obtain ⟨hx,hr⟩:=Prod.mk.inj e
    have hR5':=Lib.hid hR5
    have HE:Hid (∀W,GSt w w.heap.size X5 ⟨op,6,dg,al,mm,fw,fn⟩ (R5.drop 4) W→GSt w w.heap.size X3 ⟨op,6,dg,al,mm,fw,fn⟩ R3 (W.setCell ⟨w.heap.size+1,8,none⟩ (.int .i32 (signI (takeN R5 4) 32)))):=fun W h=>by
     rw [←hx,←hr,hX5] at*;exact h.set (by decide) (by first|rfl|simp [XI.cells])
    clear e hx hr hX5 hR5 hSZ
    go_upto_region 39 with (first
     |(go_at_call 101;(with_reducible refine (HT.out).mono ?_);rintro e w6 ⟨rfl,HG7⟩;obtain ⟨d0,d1,d2,d3,d4,d5,d6,d7,d8,d9,d10⟩:=XI.at HG7.out.x;rw [HX2'.out.1] at d4;obtain ⟨p0,p1,p2,p3,p4,p5,p6⟩:=fi_at HG7.out.f;have o2:=HG7.out.open1)
     |(go_at_call 103;(with_reducible refine (HZ.out _).mono ?_);rintro e w7 ⟨rfl,rfl⟩))
    have HG8:=Lib.hid (HE5.out _ HG7.out)
    clear HT HG6 HZ HE5
    obtain ⟨W8,hW8⟩:∃W8,W8=((((w6.setCell ⟨w.heap.size+1,3,none⟩ (.int .i64 SZ)).setCell ⟨w.heap.size+1,6,none⟩ (.int .i64 (MID:Nat))).setCell ⟨w.heap.size+1,7,none⟩ (.int .i64 (FIN:Nat))).setCell ⟨w.heap.size+1,6,none⟩ (.int .i64 (FIN:Nat))).setCell ⟨w.heap.size+1,7,none⟩ (.int .i64 (MID:Nat)):=⟨_,rfl⟩
    rw [←hW8] at HG8 ⊢
    clear hW8 d0 d1 d2 d3 d4 d5 d6 d7 d8 d9 d10 p0 p1 p2 p3 p4 p5 p6 o2
    have HT8:=Lib.hid (HG8.out.take1)
    by_cases h4:FIN%8=4
    ·obtain rfl:F7=4:=by rw [←HF7.out];exact h4
     have HG9:Hid (∀W,GSt w w.heap.size X5 ⟨op,6,dg,al,mm,fw,fn⟩ ((R.drop 1).drop 1) W→GSt w w.heap.size X5 ⟨op,6,dg,al,mm,fw,fn⟩ R5 W):=fun W h=>by rw [←hR5'.out,if_pos h4];exact h
     clear hR5' h4
     have hb:=sign32 (takeN R5 4)
     have e1:wrap32 (signI (takeN R5 4) 32)=signI (takeN R5 4) 32:=IntWalk.wrap32_in _ hb
     have HS:Hid (∀W,GSt w w.heap.size X5 ⟨op,6,dg,al,mm,fw,fn⟩ R5 W→Calls prog 102 #[.pointer (some ⟨w.heap.size+1+1,0,none⟩), .int .i64 4] W fun e w'=>e= .returned (.int .i64 (signI (takeN R5 4) 32))∧Hid (GSt w w.heap.size X5 ⟨op,6,dg,al,mm,fw,fn⟩ (R5.drop 4) w')):=fun W h=>h.signed4
     clear hb
     generalize signI (takeN R5 4) 32=V at*
     go_wp2_with (first
      |(go_at_call 101;(with_reducible refine (HT8.out).mono ?_);rintro e w9 ⟨rfl,HGA⟩)
      |(go_at_call 102;(with_reducible refine (HS.out _ (HG9.out _ HGA.out)).mono ?_);rintro e wA ⟨rfl,HGB⟩;obtain ⟨d0,d1,d2,d3,d4,d5,d6,d7,d8,d9,d10⟩:=XI.at HGB.out.x;have o2:=HGB.out.open1))
     go_meet
     exact HE.out _ HGB.out
    ·have hF7n:((F7:Int)==4)=false:=by rw [beq_eq_false_iff_ne];have:=HF7.out;omega
     have HG9:Hid (GSt w w.heap.size X5 ⟨op,6,dg,al,mm,fw,fn⟩ R5 W8):=by rw [←hR5'.out,if_neg h4];exact HG8
     clear hR5' h4
     have hb:=sign32 (takeN R5 4)
     have e1:wrap32 (signI (takeN R5 4) 32)=signI (takeN R5 4) 32:=IntWalk.wrap32_in _ hb
     have HS:=Lib.hid (HG9.out.signed4)
     clear hb
     generalize signI (takeN R5 4) 32=V at*
     go_wp2_with (go_at_call 102;(with_reducible refine (HS.out).mono ?_);rintro e wA ⟨rfl,HGB⟩;obtain ⟨d0,d1,d2,d3,d4,d5,d6,d7,d8,d9,d10⟩:=XI.at HGB.out.x;have o2:=HGB.out.open1)
     go_meet
     exact HE.out _ HGB.out
 case rest=>
 have HG7:=hcut
 clear HG6 hcut HX3 HX2' HOP HM7 ob2 lA lB wA g0 g1 g2 g3 g4 g5 g6
 have himm:mm=0∨mm=1∨mm=4∨mm=8:=by have:=(forms_behind k).2;rw [hf] at this;exact this
 obtain ⟨c0,c1,c2,c3,c4,c5,c6,c7,c8,c9,c10⟩:=XI.at HG7.out.x
 obtain ⟨r0,r1,r2,r3,r4,r5,r6,r7,r8,r9,r10⟩:=XI.at HG7.out.res
 obtain ⟨g0,g1,g2,g3,g4,g5,g6⟩:=fi_at HG7.out.f
 simp only at g0 g1 g2 g3 g4 g5 g6
 have o0:=HG7.out.open0
 have o1:=HG7.out.open1
 by_cases hm0:mm=0
 ·subst hm0
  have HD:Hid (Q=X3):=by rw [HQ2.out];exact Lib.hid rfl
  have HPX:=Lib.hid (HG7.out.put X3)
  clear HQ2 himm hf
  go_wp2_with fail
  obtain ⟨W6,hW6⟩:∃W6,W6=putX wc w.heap.size X3:=⟨_,rfl⟩
  rw [←hW6] at HPX
  have g:=XI.at HPX.out.1
  refine Eq.mp (congrArg (fun W=>bodyPost prog Tryz.f66 _ Exit.ret _ W) (show W6=_ from hW6)) ?_
  clear c0 c1 c2 c3 c4 c5 c6 c7 c8 c9 c10 r0 r1 r2 r3 r4 r5 r6 r7 r8 r9 r10 g0 g1 g2 g3 g4 g5 g6 o0 o1 hW6
  obtain ⟨c0,c1,c2,c3,c4,c5,c6,c7,c8,c9,c10⟩:=g
  refine bodyPost_ret (v:=X3.agg) (by simp [results,results66,go_sem,XI.agg, *]) rfl ⟨by rw [HD.out],HPX.out.2⟩
 ·have hn:mm=1∨mm=4∨mm=8:=by omega
  have hm8:(mm:Int)>0:=by omega
  have HS:=Lib.hid (HG7.out.signed mm hn)
  obtain ⟨V,hV⟩:∃V,signI (takeN R3 mm) (8*mm)=V:=⟨_,rfl⟩
  rw [hV] at HQ2 HS
  obtain ⟨X4,hX4⟩:∃X4:XI,X4={X3 with imm:=V}:=⟨_,rfl⟩
  have HD:Hid (Q=X4):=by rw [HQ2.out,if_pos (by omega),hX4];exact Lib.hid rfl
  have HST:Hid (∀W,GSt w w.heap.size X3 ⟨op,bh,dg,al,mm,fw,fn⟩ (R3.drop mm) W→GSt w w.heap.size X4 ⟨op,bh,dg,al,mm,fw,fn⟩ (R3.drop mm) (W.setCell ⟨w.heap.size+1,10,none⟩ (.int .i64 V))):=fun W h=>h.set (by decide) (by rw [hX4];rfl)
  clear HQ2 himm hf hV hX4 hn hm0
  go_upto_region 52 with (go_at_call 102;(with_reducible refine (HS.out).mono ?_);rintro e w6 ⟨rfl,HG8⟩;obtain ⟨d0,d1,d2,d3,d4,d5,d6,d7,d8,d9,d10⟩:=XI.at HG8.out.x;have o2:=HG8.out.open1)
  have HG9:=Lib.hid (HST.out _ HG8.out)
  obtain ⟨W9,hW9⟩:∃W9,W9=(w6.setCell ⟨w.heap.size+1,10,none⟩ (.int .i64 V)):=⟨_,rfl⟩
  rw [←hW9] at HG9 ⊢
  clear hW9 HST HG8 HS c0 c1 c2 c3 c4 c5 c6 c7 c8 c9 c10 r0 r1 r2 r3 r4 r5 r6 r7 r8 r9 r10 d0 d1 d2 d3 d4 d5 d6 d7 d8 d9 d10 o0 o1 o2
  obtain ⟨c0,c1,c2,c3,c4,c5,c6,c7,c8,c9,c10⟩:=XI.at HG9.out.x
  obtain ⟨r0,r1,r2,r3,r4,r5,r6,r7,r8,r9,r10⟩:=XI.at HG9.out.res
  have o0:=HG9.out.open0
  have HPX:=Lib.hid (HG9.out.put X4)
  go_wp2_with fail
  obtain ⟨W6,hW6⟩:∃W6,W6=putX W9 w.heap.size X4:=⟨_,rfl⟩
  rw [←hW6] at HPX
  have g:=XI.at HPX.out.1
  refine Eq.mp (congrArg (fun W=>bodyPost prog Tryz.f66 _ Exit.ret _ W) (show W6=_ from hW6)) ?_
  clear c0 c1 c2 c3 c4 c5 c6 c7 c8 c9 c10 r0 r1 r2 r3 r4 r5 r6 r7 r8 r9 r10 g0 g1 g2 g3 g4 g5 g6 o0 hW6
  obtain ⟨c0,c1,c2,c3,c4,c5,c6,c7,c8,c9,c10⟩:=g
  refine bodyPost_ret (v:=X4.agg) (by simp [results,results66,go_sem,XI.agg, *]) rfl ⟨by rw [HD.out],HPX.out.2⟩
end Go.Proofs.YtfmcmfiebehhiaaGreatDoor

