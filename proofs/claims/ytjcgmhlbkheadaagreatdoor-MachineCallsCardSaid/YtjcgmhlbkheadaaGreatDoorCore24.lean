/- bits.Div32, bits.Div64. bits.Div64, the walk. (printed by mkdiv64.py) package cpu: part; Taken; Exec's own function. -/
import Derived.Test.YtjcgmhlbkheadaaGreatDoorCore23
import Derived.BigGuardPart
import Derived.Deep.CutBlock
import Derived.Deep.RegionHeld3
set_option linter.all false
set_option linter.unusedVariables false
set_option linter.unusedSimpArgs false
set_option maxRecDepth 100000
set_option maxHeartbeats 4000000
namespace Go.Proofs.YtjcgmhlbkheadaaGreatDoor
open Go.RowKit
theorem or_join(a b k:Nat)(hb:b<2^k)(h:a*2^k+b<18446744073709551616):bits .or .u64 ((a*2^k:Nat):Int) (b:Int)=((a*2^k+b:Nat):Int):=by
 rw [(bits64_nat (a*2^k) b (by omega) (by omega)).2,←Nat.shiftLeft_eq,←Nat.shiftLeft_add_eq_or_of_lt hb]
theorem div_lt_of{N y W:Nat}(hy:0<y)(h:N<W*y):N/y<W:=(Nat.div_lt_iff_lt_mul hy).2 h
theorem hi_lo{hi lo y W:Nat}(hh:hi<y)(hl:lo<W):hi*W+lo<W*y:=by
 have:(hi+1)*W≤y*W:=Nat.mul_le_mul_right W hh
 rw [Nat.add_mul,Nat.one_mul] at this
 rw [Nat.mul_comm W y]
 omega
theorem div32_any(hi lo y:Nat)(w:World)(hh:hi<y)(hy:y<4294967296)(hl:lo<4294967296):
  Calls Tryz.prog 107 #[.int .u32 hi, .int .u32 lo, .int .u32 y] w fun e w'=>e= .returned (.tuple #[.int .u32 ((hi*4294967296+lo)/y:Nat), .int .u32 ((hi*4294967296+lo)%y:Nat)])∧Fr No w w':=by
 have h0:((y:Int) !=0)=true:=by rw [bne_iff_ne];omega
 have h0':¬(y:Int)=0:=by omega
 have h1:¬(y:Int)≤(hi:Int):=by omega
 have h2:decide ((y:Int)≤(hi:Int))=false:=by simp;omega
 have u1:IntKind.u64.wrap (hi:Int)=hi:=IntWalk.u64_in _ (by omega)
 have u2:IntKind.u64.wrap (lo:Int)=lo:=IntWalk.u64_in _ (by omega)
 have u3:IntKind.u64.wrap (y:Int)=y:=IntWalk.u64_in _ (by omega)
 have u4:IntKind.u64.wrap ((hi:Int)*4294967296)=(hi:Int)*4294967296:=IntWalk.u64_in _ (by omega)
 have o1:bits .or .u64 ((hi:Int)*4294967296) (lo:Int)=((hi*4294967296+lo:Nat):Int):=or_join hi lo 32 hl (by omega)
 have hq:=div_lt_of (by omega) (hi_lo hh hl)
 have hr:=Nat.mod_lt (hi*4294967296+lo) (show 0<y by omega)
 obtain ⟨N,hN⟩:∃N,hi*4294967296+lo=N:=⟨_,rfl⟩
 rw [hN] at o1 hq hr ⊢
 obtain ⟨Q,hQ⟩:∃Q,N/y=Q:=⟨_,rfl⟩
 obtain ⟨R,hR⟩:∃R,N%y=R:=⟨_,rfl⟩
 rw [hQ] at hq ⊢
 rw [hR] at hr ⊢
 have q1:(N:Int)/(y:Int)=(Q:Int):=by rw [←hQ];rfl
 have r1:(N:Int)%(y:Int)=(R:Int):=by rw [←hR];rfl
 have q2:(Q:Int)%4294967296=Q:=by omega
 have r2:(R:Int)%4294967296=R:=by omega
 have q3:IntKind.u64.wrap (Q:Int)=Q:=IntWalk.u64_in _ (by omega)
 have q4:(N:Int).tdiv (y:Int)=(Q:Int):=by rw [←hQ];rfl
 have r4:(N:Int).tmod (y:Int)=(R:Int):=by rw [←hR];rfl
 clear hN hQ hR hq hr hh hy hl
 go_enter Tryz.func107,Tryz.ntmps107
 go_wp2_with fail
 go_quiet (fail)
 go_wp2_with fail
 go_ret2
 exact ⟨rfl,(Fr.refl _ _).drewN _⟩
theorem lz_any(y:Nat)(w:World)(hy:y<18446744073709551616):Calls Tryz.prog 135 #[.int .u64 y] w fun e w'=>e= .returned (.int .i64 (64-(Lib.bitLen y:Int)))∧w=w':=
 (Any.bits_LeadingZeros64 Tryz.lays134 (y:Int) w (by omega) (by omega)).mono fun e w' ⟨he,hw⟩=>⟨by rw [he,Int.toNat_natCast],hw.symm⟩
theorem bitLen_spec:∀(f y:Nat),0<y→y<2^f→0<Lib.bitLenAux f y∧Lib.bitLenAux f y≤f∧2^(Lib.bitLenAux f y-1)≤y∧y<2^Lib.bitLenAux f y
 |0,y,h0,h=>by simp at h;omega
 |f+1,y,h0,h=>by
  unfold Lib.bitLenAux
  rw [if_neg (by omega)]
  by_cases h1:y/2=0
  ·have:y=1:=by omega
   subst this
   have e:Lib.bitLenAux f (1/2)=0:=by cases f<;>rfl
   rw [e]
   simp
  ·obtain ⟨a,b,c,d⟩:=bitLen_spec f (y/2) (by omega) (by rw [Nat.pow_succ] at h;omega)
   generalize Lib.bitLenAux f (y/2)=L at*
   refine ⟨by omega,by omega,?_,?_⟩
   ·rw [show 1+L-1=L-1+1 by omega,Nat.pow_succ];omega
   ·rw [show 1+L=L+1 by omega,Nat.pow_succ];omega
theorem lz_shift{y:Nat}(h0:0<y)(hy:y<18446744073709551616):∃s:Nat,s≤63∧(64-(Lib.bitLen y:Int))=(s:Int)∧9223372036854775808≤y*2^s∧y*2^s<18446744073709551616:=by
 obtain ⟨a,b,c,d⟩:=bitLen_spec 64 y h0 (by simpa using hy)
 unfold Lib.bitLen
 generalize Lib.bitLenAux 64 y=L at*
 refine ⟨64-L,by omega,by omega,?_,?_⟩
 ·have:=Nat.mul_le_mul_right (2^(64-L)) c
  rw [←Nat.pow_add,show L-1+(64-L)=63 by omega] at this
  simpa using this
 ·have:=(Nat.mul_lt_mul_right (Nat.two_pow_pos (64-L))).2 d
  rw [←Nat.pow_add,show L+(64-L)=64 by omega] at this
  simpa using this
theorem mul_small{q y:Nat}(hq:q<4294967296)(hy:y<4294967296):q*y<18446744073709551616:=by
 have:=Nat.mul_le_mul (Nat.le_of_lt_succ (show q<4294967295+1 from hq)) (Nat.le_of_lt_succ (show y<4294967295+1 from hy))
 exact Nat.lt_of_le_of_lt this (by decide)
theorem dig_q{u v y1 y0 q r Q:Nat}(h:DigI u v y1 y0 q r)(hy:y0<4294967296)(hq:q≤4294967296)(hr:4294967296≤r)(hQ:Q=(u*4294967296+v)/(y1*4294967296+y0)):q=Q:=by
 rw [hQ]
 exact (dig_done h (dig_great hy hq hr)).1
theorem left_wrap{U v P R:Nat}(hR:R<18446744073709551616)(h:P≤U*4294967296+v)(e:U*4294967296+v-P=R):IntKind.u64.wrap (IntKind.u64.wrap (IntKind.u64.wrap ((U:Int)*4294967296)+(v:Int))-IntKind.u64.wrap (P:Int))=(R:Int):=by
 rw [IntKind.wrap_u64,IntKind.wrap_u64,IntKind.wrap_u64,IntKind.wrap_u64]
 omega
theorem moved_parts{hi lo s:Nat}(hs:s≤63)(hl:lo<18446744073709551616):lo/2^(64-s)<2^s∧(hi*2^s+lo/2^(64-s))*18446744073709551616+lo*2^s%18446744073709551616=(hi*18446744073709551616+lo)*2^s:=by
 have e:2^(64-s)*2^s=18446744073709551616:=by rw [←Nat.pow_add,show 64-s+s=64 by omega]
 have h1:lo/2^(64-s)<2^s:=by
  rw [Nat.div_lt_iff_lt_mul (Nat.two_pow_pos _),Nat.mul_comm,e]
  exact hl
 refine ⟨h1,?_⟩
 have h2:lo*2^s/18446744073709551616=lo/2^(64-s):=by rw [←e];exact Nat.mul_div_mul_right _ _ (Nat.two_pow_pos s)
 have h3:=Nat.div_add_mod (lo*2^s) 18446744073709551616
 rw [h2] at h3
 rw [Nat.add_mul,Nat.add_mul,Nat.mul_right_comm hi,Nat.add_assoc]
 congr 1
 rw [Nat.mul_comm (lo/_)]
 exact h3
theorem shift_back{N y s:Nat}:N*2^s/(y*2^s)=N/y∧N*2^s%(y*2^s)/2^s=N%y:=by
 refine ⟨Nat.mul_div_mul_right _ _ (Nat.two_pow_pos s),?_⟩
 rw [Nat.mul_mod_mul_right,Nat.mul_div_cancel _ (Nat.two_pow_pos s)]
theorem div64_pos(hi lo y:Nat)(w:World)(h00:0<hi)(hh:hi<y)(hy:y<18446744073709551616)(hl:lo<18446744073709551616):
  Calls Tryz.prog 106 #[.int .u64 hi, .int .u64 lo, .int .u64 y] w fun e w'=>e= .returned (.tuple #[.int .u64 ((hi*18446744073709551616+lo)/y:Nat), .int .u64 ((hi*18446744073709551616+lo)%y:Nat)])∧Fr No w w':=by
 obtain ⟨s,hs,es,l1,l2⟩:=lz_shift (y:=y) (by omega) hy
 have HZ:=Lib.hid (fun W=>lz_any y W hy)
 rw [es] at HZ
 have g0:((y:Int)==0)=false:=by rw [beq_eq_false_iff_ne];omega
 have g1:decide ((y:Int)≤(hi:Int))=false:=by simp;omega
 have g2:¬(y:Int)≤(hi:Int):=by omega
 have g3:((hi:Int)==0)=false:=by rw [beq_eq_false_iff_ne];omega
 have u0:IntKind.u64.wrap (s:Int)=s:=IntWalk.u64_in _ (by omega)
 have u1:IntKind.u64.wrap (64-(s:Int))=((64-s:Nat):Int):=by rw [IntWalk.u64_in _ (by omega)];omega
 obtain ⟨mv1,mv2⟩:=moved_parts (hi:=hi) hs hl
 obtain ⟨sb1,sb2⟩:=shift_back (N:=hi*18446744073709551616+lo) (y:=y) (s:=s)
 rw [←mv2] at sb1 sb2
 have hlow:lo*2^s%18446744073709551616<18446744073709551616:=Nat.mod_lt _ (by decide)
 have hup:hi*2^s+lo/2^(64-s)<y*2^s:=by
  have:(hi+1)*2^s≤y*2^s:=Nat.mul_le_mul_right _ hh
  rw [Nat.add_mul,Nat.one_mul] at this
  omega
 have hjoin:=or_join hi (lo/2^(64-s)) s mv1 (Nat.lt_trans hup l2)
 have e12:IntKind.u64.wrap ((lo:Int)*2^s)=((lo*2^s%18446744073709551616:Nat):Int):=by rw [pow_cast];exact wrap64_nat _
 have e11:bits .or .u64 (IntKind.u64.wrap ((hi:Int)*2^s)) ((lo:Int)/2^(64-s))=((hi*2^s+lo/2^(64-s):Nat):Int):=by
  have hh2:hi*2^s<18446744073709551616:=Nat.lt_of_le_of_lt (Nat.le_add_right _ _) (Nat.lt_trans hup l2)
  rw [pow_cast,div_cast,IntWalk.u64_in _ (by omega)]
  exact hjoin
 obtain ⟨Y,hY⟩:∃Y,y*2^s=Y:=⟨_,rfl⟩
 obtain ⟨U,hU⟩:∃U,hi*2^s+lo/2^(64-s)=U:=⟨_,rfl⟩
 obtain ⟨L,hL⟩:∃L,lo*2^s%18446744073709551616=L:=⟨_,rfl⟩
 have u2:IntKind.u64.wrap ((y:Int)*2^s)=(Y:Int):=by rw [pow_cast,hY];exact IntWalk.u64_in _ (by omega)
 rw [hU] at e11 hup sb1 sb2
 rw [hL] at e12 hlow sb1 sb2
 rw [hY] at l1 l2 hup sb1 sb2
 have e10:=low32_nat Y l2
 have e14:=low32_nat L hlow
 have e9:(Y:Int)/4294967296=((Y/4294967296:Nat):Int):=rfl
 have e13:(L:Int)/4294967296=((L/4294967296:Nat):Int):=rfl
 obtain ⟨y1,hy1⟩:∃z,Y/4294967296=z:=⟨_,rfl⟩
 obtain ⟨y0,hy0⟩:∃z,Y%4294967296=z:=⟨_,rfl⟩
 obtain ⟨v1,hv1⟩:∃z,L/4294967296=z:=⟨_,rfl⟩
 obtain ⟨v0,hv0⟩:∃z,L%4294967296=z:=⟨_,rfl⟩
 rw [hy1] at e9
 rw [hy0] at e10
 rw [hv1] at e13
 rw [hv0] at e14
 have eY:Y=y1*4294967296+y0:=by omega
 have eL:L=v1*4294967296+v0:=by omega
 have ly1:2147483648≤y1∧y1<4294967296:=by omega
 have ly0:y0<4294967296:=by omega
 have lv1:v1<4294967296:=by omega
 have lv0:v0<4294967296:=by omega
 obtain ⟨Q1,hQ1⟩:∃Q1,(U*4294967296+v1)/(y1*4294967296+y0)=Q1:=⟨_,rfl⟩
 obtain ⟨R1,hR1⟩:∃R1,(U*4294967296+v1)%(y1*4294967296+y0)=R1:=⟨_,rfl⟩
 obtain ⟨Q0,hQ0⟩:∃Q0,(R1*4294967296+v0)/(y1*4294967296+y0)=Q0:=⟨_,rfl⟩
 obtain ⟨R0,hR0⟩:∃R0,(R1*4294967296+v0)%(y1*4294967296+y0)=R0:=⟨_,rfl⟩
 rw [eY] at hup l1 l2
 have lR1:R1<y1*4294967296+y0:=by rw [←hR1];exact Nat.mod_lt _ (by omega)
 have lR0:R0<y1*4294967296+y0:=by rw [←hR0];exact Nat.mod_lt _ (by omega)
 have lQ1:Q1<4294967296:=by rw [←hQ1];exact div_lt_of (by omega) (hi_lo hup lv1)
 have lQ0:Q0<4294967296:=by rw [←hQ0];exact div_lt_of (by omega) (hi_lo lR1 lv0)
 have td:=two_digits (u:=U) (v1:=v1) (v0:=v0) (y:=y1*4294967296+y0) (Q1:=Q1) (Q0:=Q0) (by omega) hQ1.symm (by rw [hR1];exact hQ0.symm) lv0
 rw [hR1,hR0] at td
 rw [show U*18446744073709551616+L=U*18446744073709551616+v1*4294967296+v0 by rw [eL,Nat.add_assoc],eY,td.1] at sb1
 rw [show U*18446744073709551616+L=U*18446744073709551616+v1*4294967296+v0 by rw [eL,Nat.add_assoc],eY,td.2] at sb2
 rw [←sb1,←sb2]
 have HQ1:Hid (Q1=(U*4294967296+v1)/(y1*4294967296+y0)):=Lib.hid hQ1.symm
 have HQ0:Hid (Q0=(R1*4294967296+v0)/(y1*4294967296+y0)):=Lib.hid hQ0.symm
 have HUQ1:Hid (U<y1*4294967296+y0∧v1<4294967296):=Lib.hid ⟨hup,lv1⟩
 have HUQ0:Hid (R1<y1*4294967296+y0∧v0<4294967296):=Lib.hid ⟨lR1,lv0⟩
 have HY0:=Lib.hid ly0
 have HY1:=Lib.hid ly1
 have dm1:=Nat.div_add_mod (U*4294967296+v1) (y1*4294967296+y0)
 have dm0:=Nat.div_add_mod (R1*4294967296+v0) (y1*4294967296+y0)
 rw [hQ1,hR1,Nat.mul_comm] at dm1
 rw [hQ0,hR0,Nat.mul_comm] at dm0
 have HYY:Hid (Y=y1*4294967296+y0):=Lib.hid eY
 rw [←eY] at dm1 dm0 lR1 lR0 l2
 have w1:=left_wrap (U:=U) (v:=v1) (P:=Q1*Y) (R:=R1) (Nat.lt_trans lR1 l2) (by omega) (by omega)
 have w0:=left_wrap (U:=R1) (v:=v0) (P:=Q0*Y) (R:=R0) (Nat.lt_trans lR0 l2) (by omega) (by omega)
 rw [Int.natCast_mul] at w1 w0
 have fin1:IntKind.u64.wrap ((Q1:Int)*4294967296)=(Q1:Int)*4294967296:=IntWalk.u64_in _ (by omega)
 have fin2:IntKind.u64.wrap ((Q1:Int)*4294967296+(Q0:Int))=((Q1*4294967296+Q0:Nat):Int):=by rw [IntWalk.u64_in _ (by omega)];omega
 obtain ⟨QQ,hQQ⟩:∃z,Q1*4294967296+Q0=z:=⟨_,rfl⟩
 rw [hQQ] at fin2 ⊢
 have fin3:(R0:Int)/2^s=((R0/2^s:Nat):Int):=div_cast R0 s
 obtain ⟨RR,hRR⟩:∃z,R0/2^s=z:=⟨_,rfl⟩
 rw [hRR] at fin3 ⊢
 have y1pos:((y1:Int)==0)=false:=by rw [beq_eq_false_iff_ne];omega
 have y1ne:¬(y1:Int)=0:=by omega
 have HI1:Hid (DigI U v1 y1 y0 (U/y1) (U-U/y1*y1)∧U/y1≤4294967297∧U-U/y1*y1<4294967296):=Lib.hid ⟨dig_start (by omega) lv1,dig_small ly1.1 ly0 hup,Nat.lt_trans (dig_rest (by omega)) ly1.2⟩
 have HI0:Hid (DigI R1 v0 y1 y0 (R1/y1) (R1-R1/y1*y1)∧R1/y1≤4294967297∧R1-R1/y1*y1<4294967296):=Lib.hid ⟨dig_start (by omega) lv0,dig_small ly1.1 ly0 HUQ0.out.1,Nat.lt_trans (dig_rest (by omega)) ly1.2⟩
 have HU64:Hid (U<18446744073709551616):=Lib.hid (Nat.lt_trans hup (by rw [←eY];exact l2))
 have HR64:Hid (R1<18446744073709551616):=Lib.hid (Nat.lt_trans lR1 l2)
 clear es hh hy hl h00 l1 l2 mv1 mv2 sb1 sb2 hlow hup hjoin hY hU hL hy1 hy0 hv1 hv0 eY eL ly1 ly0 lv1 lv0 hQ1 hR1 hQ0 hR0 lR1 lR0 lQ1 lQ0 td dm1 dm0 hQQ hRR
 go_enter Tryz.func106,Tryz.ntmps106
 go_upto_region 15 with (go_at_call 135;(with_reducible refine (HZ.out _).mono ?_);rintro e w1 ⟨rfl,rfl⟩)
 clear HZ g0 g1 g3 u0 u2 e9 e10 e11 e12 e13 e14 u1
 obtain ⟨q0,hq0⟩:∃q0,U/y1=q0:=⟨_,rfl⟩
 obtain ⟨r0,hr0⟩:∃r0,U-q0*y1=r0:=⟨_,rfl⟩
 have HI:Hid (DigI U v1 y1 y0 q0 r0∧q0≤4294967297∧r0<4294967296∧w=w):=by
  have:=HI1.out
  rw [hq0,hr0] at this
  exact ⟨this.1,this.2.1,this.2.2,rfl⟩
 have d1:(U:Int)/(y1:Int)=(q0:Int):=by rw [←hq0];rfl
 have d2:(U:Int).tdiv (y1:Int)=(q0:Int):=by rw [←hq0];rfl
 have hle:q0*y1≤U:=by rw [←hq0];exact Nat.div_mul_le_self _ _
 have d3:IntKind.u64.wrap ((q0:Int)*(y1:Int))=((q0*y1:Nat):Int):=by have:=HU64.out;rw [←Int.natCast_mul];exact IntWalk.u64_in _ (by omega)
 have d4:IntKind.u64.wrap ((U:Int)-((q0*y1:Nat):Int))=(r0:Int):=by have:=HU64.out;rw [←hr0,IntWalk.u64_in _ (by omega)];omega
 have d5:IntKind.u64.wrap (q0:Int)=(q0:Int):=by have:=HI.out.2.1;exact IntWalk.u64_in _ (by omega)
 generalize q0*y1=A0 at*
 clear HI1 HU64 hq0 hr0 hle
 go_upto_block 0 with fail
 go_cut [15,16] from 67 to 85 (fun sq _ wx=>sq= .int .u64 Q1∧w=wx)
 case first=>
  go_wp2_with fail
  go_loopw [15,16] (fun sq sr wr=>∃q r:Nat,sq= .int .u64 q∧sr= .int .u64 r∧Hid (DigI U v1 y1 y0 q r∧q≤4294967297∧r<4294967296∧w=wr)) (fun sq _ _=>(intOf sq).toNat)
  case atStart=>exact ⟨_,_,rfl,rfl,⟨HI.out.1,HI.out.2.1,HI.out.2.2.1,by first|rfl|trivial⟩⟩
  case round=>
   obtain ⟨q,r,rfl,rfl,HJ⟩:=hrel
   obtain ⟨hd,hq,hr,rfl⟩:=HJ.out
   by_cases hc:4294967296≤q∨r*4294967296+v1<q*y0
   ·obtain ⟨hp,hd2⟩:=dig_step hd HY0.out HUQ1.out.1 HUQ1.out.2 hc
    have m1:IntKind.u64.wrap ((q:Int)-1)=((q-1:Nat):Int):=by rw [IntWalk.u64_in _ (by omega)];omega
    have m2:IntKind.u64.wrap ((r:Int)+(y1:Int))=((r+y1:Nat):Int):=by have:=HY1.out;rw [IntWalk.u64_in _ (by omega)];omega
    have HD2:=Lib.hid hd2
    have hq2:q-1≤4294967296:=by omega
    have hm:q-1<q:=by omega
    have HN:Hid (q-1≤4294967297):=Lib.hid (by omega)
    have HGR:Hid (4294967296≤r+y1→q-1=Q1):=Lib.hid (fun h=>dig_q hd2 HY0.out hq2 h HQ1.out)
    have HM:Hid (q-1<q):=hm
    by_cases h32:4294967296≤q
    ·have b1:decide ((4294967296:Int)≤(q:Int))=true:=by simp;omega
     have b2:(4294967296:Int)≤(q:Int):=by omega
     clear hc hd hd2 hp hq2 hm hq hr HI HJ h32
     by_cases hg:4294967296≤r+y1
     ·have b3:(4294967296:Int)≤((r+y1:Nat):Int):=by omega
      have e1:=HGR.out hg
      generalize q-1=q' at*
      generalize r+y1=r' at*
      clear hg
      go_wp2_with fail
      go_meet
      exact ⟨by first|rfl|rw [e1],rfl⟩
     ·have b3:¬(4294967296:Int)≤((r+y1:Nat):Int):=by omega
      have HL:Hid (r+y1<4294967296):=Lib.hid (by omega)
      clear hg
      generalize hq':q-1=q' at*
      generalize r+y1=r' at*
      clear hq'
      go_wp2_with fail
      go_roundw
      case rel=>exact ⟨q',r',rfl,rfl,HD2.out,HN.out,HL.out,by first|rfl|trivial⟩
      case measure=>have:=HM.out;simp [intOf];omega
    ·have hlt:r*4294967296+v1<q*y0:=hc.resolve_left h32
     have l1:q*y0<18446744073709551616:=mul_small (by omega) HY0.out
     have b1:decide ((4294967296:Int)≤(q:Int))=false:=by simp;omega
     have b2:¬(4294967296:Int)≤(q:Int):=by omega
     have n1:IntKind.u64.wrap ((q:Int)*(y0:Int))=((q*y0:Nat):Int):=by rw [←Int.natCast_mul];exact IntWalk.u64_in _ (by omega)
     have n2:IntKind.u64.wrap (4294967296*(r:Int))=4294967296*(r:Int):=IntWalk.u64_in _ (by omega)
     have n3:IntKind.u64.wrap (4294967296*(r:Int)+(v1:Int))=4294967296*(r:Int)+(v1:Int):=by have:=HUQ1.out.2;exact IntWalk.u64_in _ (by omega)
     have b4:decide (4294967296*(r:Int)+(v1:Int)<((q*y0:Nat):Int))=true:=by simp;omega
     have b5:4294967296*(r:Int)+(v1:Int)<((q*y0:Nat):Int):=by omega
     generalize q*y0=B at*
     clear hc hd hd2 hp hq2 hm hq hr HI HJ h32 hlt l1
     by_cases hg:4294967296≤r+y1
     ·have b3:(4294967296:Int)≤((r+y1:Nat):Int):=by omega
      have e1:=HGR.out hg
      generalize q-1=q' at*
      generalize r+y1=r' at*
      clear hg
      go_wp2_with fail
      go_meet
      exact ⟨by first|rfl|rw [e1],rfl⟩
     ·have b3:¬(4294967296:Int)≤((r+y1:Nat):Int):=by omega
      have HL:Hid (r+y1<4294967296):=Lib.hid (by omega)
      clear hg
      generalize hq':q-1=q' at*
      generalize r+y1=r' at*
      clear hq'
      go_wp2_with fail
      go_roundw
      case rel=>exact ⟨q',r',rfl,rfl,HD2.out,HN.out,HL.out,by first|rfl|trivial⟩
      case measure=>have:=HM.out;simp [intOf];omega
   ·have h32:¬4294967296≤q:=fun h=>hc (.inl h)
    have hle:q*y0≤r*4294967296+v1:=Nat.le_of_not_lt (fun h=>hc (.inr h))
    have l1:q*y0<18446744073709551616:=mul_small (by omega) HY0.out
    have e1:q=Q1:=by rw [(dig_done hd hle).1];exact HQ1.out.symm
    have b1:decide ((4294967296:Int)≤(q:Int))=false:=by simp;omega
    have b2:¬(4294967296:Int)≤(q:Int):=by omega
    have n1:IntKind.u64.wrap ((q:Int)*(y0:Int))=((q*y0:Nat):Int):=by rw [←Int.natCast_mul];exact IntWalk.u64_in _ (by omega)
    have n2:IntKind.u64.wrap (4294967296*(r:Int))=4294967296*(r:Int):=IntWalk.u64_in _ (by omega)
    have n3:IntKind.u64.wrap (4294967296*(r:Int)+(v1:Int))=4294967296*(r:Int)+(v1:Int):=by have:=HUQ1.out.2;exact IntWalk.u64_in _ (by omega)
    have b4:decide (4294967296*(r:Int)+(v1:Int)<((q*y0:Nat):Int))=false:=by simp;omega
    have b5:¬4294967296*(r:Int)+(v1:Int)<((q*y0:Nat):Int):=by omega
    generalize q*y0=B at*
    have HE1:=Lib.hid e1
    clear hc hd hq hr HI HJ h32 hle l1 e1
    go_wp2_with fail
    go_meet
    exact ⟨by first|rfl|rw [HE1.out],rfl⟩
 case rest=>
 obtain ⟨rfl,rfl⟩:=hcut
 clear HI
 go_upto_region 22 with fail
 clear w1 d1 d2 d3 d4 d5
 obtain ⟨p0,hp0⟩:∃p0,R1/y1=p0:=⟨_,rfl⟩
 obtain ⟨t0,ht0⟩:∃t0,R1-p0*y1=t0:=⟨_,rfl⟩
 have HI:Hid (DigI R1 v0 y1 y0 p0 t0∧p0≤4294967297∧t0<4294967296∧w=w):=by
  have:=HI0.out
  rw [hp0,ht0] at this
  exact ⟨this.1,this.2.1,this.2.2,rfl⟩
 have d1:(R1:Int)/(y1:Int)=(p0:Int):=by rw [←hp0];rfl
 have d2:(R1:Int).tdiv (y1:Int)=(p0:Int):=by rw [←hp0];rfl
 have hle:p0*y1≤R1:=by rw [←hp0];exact Nat.div_mul_le_self _ _
 have d3:IntKind.u64.wrap ((p0:Int)*(y1:Int))=((p0*y1:Nat):Int):=by have:=HR64.out;rw [←Int.natCast_mul];exact IntWalk.u64_in _ (by omega)
 have d4:IntKind.u64.wrap ((R1:Int)-((p0*y1:Nat):Int))=(t0:Int):=by have:=HR64.out;rw [←ht0,IntWalk.u64_in _ (by omega)];omega
 have d5:IntKind.u64.wrap (p0:Int)=(p0:Int):=by have:=HI.out.2.1;exact IntWalk.u64_in _ (by omega)
 generalize p0*y1=B0 at*
 clear HI0 HR64 hp0 ht0 hle
 go_upto_block 2 with fail
 go_cut [18,16] from 102 to 120 (fun sq _ wx=>sq= .int .u64 Q0∧w=wx)
 case first=>
  go_wp2_with fail
  go_loopw [18,16] (fun sq sr wr=>∃q r:Nat,sq= .int .u64 q∧sr= .int .u64 r∧Hid (DigI R1 v0 y1 y0 q r∧q≤4294967297∧r<4294967296∧w=wr)) (fun sq _ _=>(intOf sq).toNat)
  case atStart=>exact ⟨_,_,rfl,rfl,⟨HI.out.1,HI.out.2.1,HI.out.2.2.1,by first|rfl|trivial⟩⟩
  case round=>
   obtain ⟨q,r,rfl,rfl,HJ⟩:=hrel
   obtain ⟨hd,hq,hr,rfl⟩:=HJ.out
   by_cases hc:4294967296≤q∨r*4294967296+v0<q*y0
   ·obtain ⟨hp,hd2⟩:=dig_step hd HY0.out HUQ0.out.1 HUQ0.out.2 hc
    have m1:IntKind.u64.wrap ((q:Int)-1)=((q-1:Nat):Int):=by rw [IntWalk.u64_in _ (by omega)];omega
    have m2:IntKind.u64.wrap ((r:Int)+(y1:Int))=((r+y1:Nat):Int):=by have:=HY1.out;rw [IntWalk.u64_in _ (by omega)];omega
    have HD2:=Lib.hid hd2
    have hq2:q-1≤4294967296:=by omega
    have hm:q-1<q:=by omega
    have HN:Hid (q-1≤4294967297):=Lib.hid (by omega)
    have HGR:Hid (4294967296≤r+y1→q-1=Q0):=Lib.hid (fun h=>dig_q hd2 HY0.out hq2 h HQ0.out)
    have HM:Hid (q-1<q):=hm
    by_cases h32:4294967296≤q
    ·have b1:decide ((4294967296:Int)≤(q:Int))=true:=by simp;omega
     have b2:(4294967296:Int)≤(q:Int):=by omega
     clear hc hd hd2 hp hq2 hm hq hr HI HJ h32
     by_cases hg:4294967296≤r+y1
     ·have b3:(4294967296:Int)≤((r+y1:Nat):Int):=by omega
      have e1:=HGR.out hg
      generalize q-1=q' at*
      generalize r+y1=r' at*
      clear hg
      go_wp2_with fail
      go_meet
      exact ⟨by first|rfl|rw [e1],rfl⟩
     ·have b3:¬(4294967296:Int)≤((r+y1:Nat):Int):=by omega
      have HL:Hid (r+y1<4294967296):=Lib.hid (by omega)
      clear hg
      generalize hq':q-1=q' at*
      generalize r+y1=r' at*
      clear hq'
      go_wp2_with fail
      go_roundw
      case rel=>exact ⟨q',r',rfl,rfl,HD2.out,HN.out,HL.out,by first|rfl|trivial⟩
      case measure=>have:=HM.out;simp [intOf];omega
    ·have hlt:r*4294967296+v0<q*y0:=hc.resolve_left h32
     have l1:q*y0<18446744073709551616:=mul_small (by omega) HY0.out
     have b1:decide ((4294967296:Int)≤(q:Int))=false:=by simp;omega
     have b2:¬(4294967296:Int)≤(q:Int):=by omega
     have n1:IntKind.u64.wrap ((q:Int)*(y0:Int))=((q*y0:Nat):Int):=by rw [←Int.natCast_mul];exact IntWalk.u64_in _ (by omega)
     have n2:IntKind.u64.wrap (4294967296*(r:Int))=4294967296*(r:Int):=IntWalk.u64_in _ (by omega)
     have n3:IntKind.u64.wrap (4294967296*(r:Int)+(v0:Int))=4294967296*(r:Int)+(v0:Int):=by have:=HUQ0.out.2;exact IntWalk.u64_in _ (by omega)
     have b4:decide (4294967296*(r:Int)+(v0:Int)<((q*y0:Nat):Int))=true:=by simp;omega
     have b5:4294967296*(r:Int)+(v0:Int)<((q*y0:Nat):Int):=by omega
     generalize q*y0=B at*
     clear hc hd hd2 hp hq2 hm hq hr HI HJ h32 hlt l1
     by_cases hg:4294967296≤r+y1
     ·have b3:(4294967296:Int)≤((r+y1:Nat):Int):=by omega
      have e1:=HGR.out hg
      generalize q-1=q' at*
      generalize r+y1=r' at*
      clear hg
      go_wp2_with fail
      go_meet
      exact ⟨by first|rfl|rw [e1],rfl⟩
     ·have b3:¬(4294967296:Int)≤((r+y1:Nat):Int):=by omega
      have HL:Hid (r+y1<4294967296):=Lib.hid (by omega)
      clear hg
      generalize hq':q-1=q' at*
      generalize r+y1=r' at*
      clear hq'
      go_wp2_with fail
      go_roundw
      case rel=>exact ⟨q',r',rfl,rfl,HD2.out,HN.out,HL.out,by first|rfl|trivial⟩
      case measure=>have:=HM.out;simp [intOf];omega
   ·have h32:¬4294967296≤q:=fun h=>hc (.inl h)
    have hle:q*y0≤r*4294967296+v0:=Nat.le_of_not_lt (fun h=>hc (.inr h))
    have l1:q*y0<18446744073709551616:=mul_small (by omega) HY0.out
    have e1:q=Q0:=by rw [(dig_done hd hle).1];exact HQ0.out.symm
    have b1:decide ((4294967296:Int)≤(q:Int))=false:=by simp;omega
    have b2:¬(4294967296:Int)≤(q:Int):=by omega
    have n1:IntKind.u64.wrap ((q:Int)*(y0:Int))=((q*y0:Nat):Int):=by rw [←Int.natCast_mul];exact IntWalk.u64_in _ (by omega)
    have n2:IntKind.u64.wrap (4294967296*(r:Int))=4294967296*(r:Int):=IntWalk.u64_in _ (by omega)
    have n3:IntKind.u64.wrap (4294967296*(r:Int)+(v0:Int))=4294967296*(r:Int)+(v0:Int):=by have:=HUQ0.out.2;exact IntWalk.u64_in _ (by omega)
    have b4:decide (4294967296*(r:Int)+(v0:Int)<((q*y0:Nat):Int))=false:=by simp;omega
    have b5:¬4294967296*(r:Int)+(v0:Int)<((q*y0:Nat):Int):=by omega
    generalize q*y0=B at*
    have HE1:=Lib.hid e1
    clear hc hd hq hr HI HJ h32 hle l1 e1
    go_wp2_with fail
    go_meet
    exact ⟨by first|rfl|rw [HE1.out],rfl⟩
 case rest=>
 obtain ⟨rfl,rfl⟩:=hcut
 clear HI
 go_wp2_with fail
 go_ret2
 exact ⟨rfl,Fr.refl _ _⟩
theorem div64_low(lo y:Nat)(w:World)(h0:0<y)(hy:y<18446744073709551616)(hl:lo<18446744073709551616):
  Calls Tryz.prog 106 #[.int .u64 0, .int .u64 lo, .int .u64 y] w fun e w'=>e= .returned (.tuple #[.int .u64 (lo/y:Nat), .int .u64 (lo%y:Nat)])∧Fr No w w':=by
 have g0:((y:Int)==0)=false:=by rw [beq_eq_false_iff_ne];omega
 have g0':¬(y:Int)=0:=by omega
 have g2:¬(y:Int)≤0:=by omega
 have g1:decide ((y:Int)≤0)=false:=by simp;omega
 have hq:=Nat.lt_of_le_of_lt (Nat.div_le_self lo y) hl
 have hr:=Nat.lt_of_le_of_lt (Nat.mod_le lo y) hl
 obtain ⟨Q,hQ⟩:∃Q,lo/y=Q:=⟨_,rfl⟩
 obtain ⟨R,hR⟩:∃R,lo%y=R:=⟨_,rfl⟩
 rw [hQ] at hq ⊢
 rw [hR] at hr ⊢
 have q1:(lo:Int)/(y:Int)=(Q:Int):=by rw [←hQ];rfl
 have r1:(lo:Int)%(y:Int)=(R:Int):=by rw [←hR];rfl
 have q4:(lo:Int).tdiv (y:Int)=(Q:Int):=by rw [←hQ];rfl
 have r4:(lo:Int).tmod (y:Int)=(R:Int):=by rw [←hR];rfl
 have q3:IntKind.u64.wrap (Q:Int)=Q:=IntWalk.u64_in _ (by omega)
 clear hQ hR hq hr h0 hy hl
 go_enter Tryz.func106,Tryz.ntmps106
 go_wp2_with fail
 go_quiet (fail)
 go_wp2_with fail
 go_ret2
 exact ⟨rfl,(Fr.refl _ _).drewN _⟩
theorem div64_any(hi lo y:Nat)(w:World)(hh:hi<y)(hy:y<18446744073709551616)(hl:lo<18446744073709551616):
  Calls Tryz.prog 106 #[.int .u64 hi, .int .u64 lo, .int .u64 y] w fun e w'=>e= .returned (.tuple #[.int .u64 ((hi*18446744073709551616+lo)/y:Nat), .int .u64 ((hi*18446744073709551616+lo)%y:Nat)])∧Fr No w w':=by
 rcases Nat.eq_zero_or_pos hi with h|h
 ·subst h
  rw [Nat.zero_mul,Nat.zero_add]
  exact div64_low lo y w hh hy hl
 ·exact div64_pos hi lo y w h hh hy hl
def partV:Option (Nat×Nat)→Value
 |none=> .tuple #[.int .u64 0, .int .u64 0, .bool false]
 |some q=> .tuple #[.int .u64 q.1, .int .u64 q.2, .bool true]
theorem part_any(wide:Bool)(hi lo y:Nat)(w:World)(hh:hi<18446744073709551616)(hy:y<18446744073709551616)(hl:lo<18446744073709551616):
  Calls Tryz.prog 72 #[.bool wide, .int .u64 hi, .int .u64 lo, .int .u64 y] w fun e w'=>e= .returned (partV (partM wide hi lo y))∧Fr No w w':=by
 cases wide with
 |true=>
  have e:partM true hi lo y=if y≤hi then none else some ((hi*18446744073709551616+lo)/y,(hi*18446744073709551616+lo)%y):=by
   simp only [partM,show wordN true=18446744073709551616 from rfl,Nat.mod_eq_of_lt hh,Nat.mod_eq_of_lt hy,Nat.mod_eq_of_lt hl]
  rw [e]
  by_cases hc:y≤hi
  ·rw [if_pos hc]
   have g1:decide ((y:Int)≤(hi:Int))=true:=by simp;omega
   have g2:(y:Int)≤(hi:Int):=by omega
   simp only [partV]
   clear e
   go_enter Tryz.func72,Tryz.ntmps72
   go_wp2_with fail
   go_ret3
   exact ⟨rfl,Fr.refl _ _⟩
  ·rw [if_neg hc]
   have HD:=Lib.hid (fun W=>div64_any hi lo y W (by omega) hy hl)
   have g1:decide ((y:Int)≤(hi:Int))=false:=by simp;omega
   have g2:¬(y:Int)≤(hi:Int):=by omega
   simp only [partV]
   generalize (hi*18446744073709551616+lo)/y=Q at*
   generalize (hi*18446744073709551616+lo)%y=R at*
   clear e
   go_enter Tryz.func72,Tryz.ntmps72
   go_wp2_with (go_at_call 106;(with_reducible refine (HD.out _).mono ?_);rintro e w1 ⟨rfl,hf1⟩)
   go_ret3
   exact ⟨rfl,hf1⟩
 |false=>
  have e:partM false hi lo y=if y%4294967296≤hi%4294967296 then none else some ((hi%4294967296*4294967296+lo%4294967296)/(y%4294967296),(hi%4294967296*4294967296+lo%4294967296)%(y%4294967296)):=rfl
  rw [e]
  have f1:(((hi%4294967296:Nat):Int))=(hi:Int)%4294967296:=by omega
  have f2:(((lo%4294967296:Nat):Int))=(lo:Int)%4294967296:=by omega
  have f3:(((y%4294967296:Nat):Int))=(y:Int)%4294967296:=by omega
  by_cases hc:y%4294967296≤hi%4294967296
  ·rw [if_pos hc]
   have g1:decide ((y:Int)%4294967296≤(hi:Int)%4294967296)=true:=by simp;omega
   have g2:(y:Int)%4294967296≤(hi:Int)%4294967296:=by omega
   simp only [partV]
   clear e f1 f2 f3
   go_enter Tryz.func72,Tryz.ntmps72
   go_wp2_with fail
   go_ret3
   exact ⟨rfl,Fr.refl _ _⟩
  ·rw [if_neg hc]
   have HD:=fun W=>div32_any (hi%4294967296) (lo%4294967296) (y%4294967296) W (by omega) (by omega) (by omega)
   rw [f1,f2,f3] at HD
   have HD:=Lib.hid HD
   have g1:decide ((y:Int)%4294967296≤(hi:Int)%4294967296)=false:=by simp;omega
   have g2:¬(y:Int)%4294967296≤(hi:Int)%4294967296:=by omega
   have hq:=div_lt_of (y:=y%4294967296) (by omega) (hi_lo (hi:=hi%4294967296) (lo:=lo%4294967296) (W:=4294967296) (by omega) (by omega))
   have hr:=Nat.mod_lt (hi%4294967296*4294967296+lo%4294967296) (show 0<y%4294967296 by omega)
   simp only [partV]
   generalize (hi%4294967296*4294967296+lo%4294967296)/(y%4294967296)=Q at*
   generalize (hi%4294967296*4294967296+lo%4294967296)%(y%4294967296)=R at*
   have u1:IntKind.u64.wrap (Q:Int)=Q:=IntWalk.u64_in _ (by omega)
   have u2:IntKind.u64.wrap (R:Int)=R:=IntWalk.u64_in _ (by omega)
   clear e f1 f2 f3 hq hr hc
   go_enter Tryz.func72,Tryz.ntmps72
   go_wp2_with (go_at_call 107;(with_reducible refine (HD.out _).mono ?_);rintro e w1 ⟨rfl,hf1⟩)
   go_ret3
   exact ⟨rfl,hf1⟩
end Go.Proofs.YtjcgmhlbkheadaaGreatDoor
