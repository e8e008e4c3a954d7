/- package machine: the functions of touches. (printed by mktw.py) package machine: call. -/
import Derived.Test.YtjcgmhlbkheadaaGreatDoorCore28
import Derived.Handy
set_option linter.all false
set_option linter.unusedVariables false
set_option linter.unusedSimpArgs false
set_option maxRecDepth 100000
set_option maxHeartbeats 2000000
namespace Go.Proofs.YtjcgmhlbkheadaaGreatDoor
open Go.RowKit
structure TwS(w0 wr:World)(N bw mb:Nat)(ds:List MapD)(p:Nat)(RL:List Reg)(W:HW)(g:Nat)(b:Nat)(x:XI)(s:ST)(w:World):Prop where
 wm:WM w0 N bw mb ds p RL W w
 st:SAt w g s
 x:XAt w b x
 fr:Fr (fun k=>Zof w0 N k∨k=g) wr w
 lg:N≤g
 lb:g<b
theorem TwS.start{w0 wr:World}{N bw mb:Nat}{ds:List MapD}{p:Nat}{RL:List Reg}{W:HW}{g:Nat}{s:ST}(h:WM w0 N bw mb ds p RL W wr)(hs:SAt wr g s)(hg:N≤g)(x:XI)(t:TypeId):TwS w0 wr N bw mb ds p RL W g wr.heap.size x s (wr.alloc (.cells x.cells.toArray t)):=
 ⟨h.to (fr_alloc _ _),hs.fr (fr_alloc wr _) (T:=No) id,CellsAt.new wr _ _,(fr_alloc wr _).any,hg,hs.lt⟩
theorem TwS.no{w0 wr w w':World}{N bw mb:Nat}{ds:List MapD}{p:Nat}{RL:List Reg}{W:HW}{g b:Nat}{x:XI}{s:ST}(h:TwS w0 wr N bw mb ds p RL W g b x s w)(hf:Fr No w w'):TwS w0 wr N bw mb ds p RL W g b x s w':=
 ⟨h.wm.to hf,h.st.fr hf id,hf.cells h.x id,h.fr.trans hf.any,h.lg,h.lb⟩
theorem TwS.drew{w0 wr w:World}{N bw mb:Nat}{ds:List MapD}{p:Nat}{RL:List Reg}{W:HW}{g b:Nat}{x:XI}{s:ST}(h:TwS w0 wr N bw mb ds p RL W g b x s w):TwS w0 wr N bw mb ds p RL W g b x s w.drew:=h.no (Fr.refl No w).drew
theorem TwS.turn{w0 wr w w':World}{N bw mb:Nat}{ds:List MapD}{p:Nat}{RL:List Reg}{W W':HW}{g b:Nat}{x:XI}{s:ST}(h:TwS w0 wr N bw mb ds p RL W g b x s w)(hm:WM w0 N bw mb ds p RL W' w')(hf:Fr (Zof w0 N) w w'):TwS w0 wr N bw mb ds p RL W' g b x s w':=
 ⟨hm,h.st.fr hf (fun hz=>by have:=hz.2;have:=h.lg;omega),hf.cells h.x (fun hz=>by have:=hz.2;have:=h.lg;have:=h.lb;omega),h.fr.trans (hf.mono fun _ _ hk=> .inl hk),h.lg,h.lb⟩
theorem TwS.box{w0 wr w w':World}{N bw mb:Nat}{ds:List MapD}{p:Nat}{RL:List Reg}{W:HW}{g b:Nat}{x:XI}{s s':ST}(h:TwS w0 wr N bw mb ds p RL W g b x s w)(hs:SAt w' g s')(hf:Fr (fun k=>k=g) w w'):TwS w0 wr N bw mb ds p RL W g b x s' w':=
 ⟨h.wm.beside hf (fun k hk=>by rw [hk];exact h.lg),hs,hf.cells h.x (fun hz=>by have:=h.lb;omega),h.fr.trans (hf.mono fun _ _ hk=> .inr hk),h.lg,h.lb⟩
theorem TwS.setReg{w0 wr w:World}{N bw mb:Nat}{ds:List MapD}{p:Nat}{RL:List Reg}{W:HW}{g b:Nat}{x:XI}{s:ST}(h:TwS w0 wr N bw mb ds p RL W g b x s w){i:Nat}(hi:i<16){v:Nat}(hv:v<18446744073709551616):TwS w0 wr N bw mb ds p RL W g b x (s.set i v) (w.setCell ⟨g,i,none⟩ (.int .u64 v)):=
 h.box (h.st.setReg hi hv) ((Fr.refl (fun k=>k=g) w).setCell (p:=⟨g,i,none⟩) (.inr rfl) _)
theorem TwS.setPC{w0 wr w:World}{N bw mb:Nat}{ds:List MapD}{p:Nat}{RL:List Reg}{W:HW}{g b:Nat}{x:XI}{s:ST}(h:TwS w0 wr N bw mb ds p RL W g b x s w){v:Nat}(hv:v<18446744073709551616):TwS w0 wr N bw mb ds p RL W g b x {s with pc:=v} (w.setCell ⟨g,20,none⟩ (.int .u64 v)):=
 h.box (h.st.setPC hv) ((Fr.refl (fun k=>k=g) w).setCell (p:=⟨g,20,none⟩) (.inr rfl) _)
theorem TwS.to_{w0 wr w w':World}{N bw mb:Nat}{ds:List MapD}{p:Nat}{RL:List Reg}{W W':HW}{g b:Nat}{x:XI}{s s':ST}(h:TwS w0 wr N bw mb ds p RL W g b x s w)(ht:TouTo w0 N bw mb ds p RL W' g s' w w'):TwS w0 wr N bw mb ds p RL W' g b x s' w':=
 ⟨ht.1.out,ht.2.1.out,ht.2.2.out.cells h.x (fun hz=>by have:=h.lg;have:=h.lb;rcases hz with hz|hz;(·have:=hz.2;omega);omega),h.fr.trans ht.2.2.out,h.lg,h.lb⟩
theorem TwS.end_{w0 wr w:World}{N bw mb:Nat}{ds:List MapD}{p:Nat}{RL:List Reg}{W:HW}{g b:Nat}{x:XI}{s:ST}(h:TwS w0 wr N bw mb ds p RL W g b x s w):TouTo w0 N bw mb ds p RL W g s wr w:=⟨h.wm,h.st,h.fr⟩
theorem touches1_any{w0 wr:World}{N:Nat}{bw mb p:Nat}{ds:List MapD}{RL:List Reg}{W:HW}(h:WM w0 N bw mb ds p RL W wr)(k a c z:Int)(wd sh:Bool)(d r:Nat)(dp rl im:Int)(addr:Nat)(n:Int)(g:Nat)(s:ST)(hs:SAt wr g s)(hg:N≤g)(ha:addr<18446744073709551616)(hd:d<16)(hr:r<16):
  Calls Tryz.prog 176 #[.pointer (some ⟨bw,0,none⟩),(XI.mk k a c z wd sh d r dp rl im).agg, .int .u64 addr, .int .i64 n, .pointer (some ⟨g,0,none⟩)] wr fun e w'=>e= .returned (.int .i64 (mread W.m addr n).2)∧TouTo w0 N bw mb ds p RL W g (s.set d (mread W.m addr n).1) wr w':=by
 have HST:Hid (∀t,_):=TwS.start h hs hg ⟨k,a,c,z,wd,sh,d,r,dp,rl,im⟩
 simp only [XI.agg]
 have HM:Hid (∀W',WM w0 N bw mb ds p RL W W'→_):=fun W' hW=>WM.memory hW
 have HR:Hid (∀W',WM w0 N bw mb ds p RL W W'→_):=fun W' hW=>WM.read hW addr n ha
 have HV:=Lib.hid (mread_lt W.m addr n)
 have HD:=Lib.hid hd
 have d1:(0:Int)≤(d:Int):=by omega
 have d2:(d:Int)<16:=by omega
 clear h hs ha hd hr hg
 generalize (mread W.m addr n).1=V at*
 generalize (mread W.m addr n).2=E at*
 go_enter Tryz.func176,Tryz.ntmps176
 go_upto_region 1 with fail
 refine wp_world (fun W1=>Hid (TwS w0 wr N bw mb ds p RL W g wr.heap.size ⟨k,a,c,z,wd,sh,d,r,dp,rl,im⟩ s W1)) (by exact HST.out _) ?_
 intro W1 HL
 clear HST
 obtain ⟨c0,c1,c2,c3,c4,c5,c6,c7,c8,c9,c10⟩:=XI.at HL.out.x
 clear c0 c1 c2 c3 c4 c5 c8 c9 c10
 have rg:=HL.out.st.reg HD.out
 have oo:=HL.out.st.open_
 go_region_with (first
  |(go_at_call 10;(with_reducible refine (HM.out _ HL.out.drew.wm).mono ?_);rintro e w1 ⟨rfl,rfl⟩)
  |(go_at_call 177;(with_reducible refine (HR.out _ HL.out.drew.wm).mono ?_);rintro e w2 ⟨rfl,hf2⟩;have c6':=(XI.at (HL.out.drew.no hf2).x).2.2.2.2.2.2.1;have rg':=(HL.out.drew.no hf2).st.reg HD.out;have oo':=(HL.out.drew.no hf2).st.open_))
 all_goals go_wp2_with fail
 all_goals go_ret
 all_goals exact ⟨rfl,TwS.end_ (((HL.out.drew.no hf2).setReg HD.out HV.out))⟩
theorem touches2_any{w0 wr:World}{N:Nat}{bw mb p:Nat}{ds:List MapD}{RL:List Reg}{W:HW}(h:WM w0 N bw mb ds p RL W wr)(k a c z:Int)(wd sh:Bool)(d r:Nat)(dp rl im:Int)(addr:Nat)(n:Int)(g:Nat)(s:ST)(hs:SAt wr g s)(hg:N≤g)(ha:addr<18446744073709551616)(hd:d<16)(hr:r<16):
  Calls Tryz.prog 178 #[.pointer (some ⟨bw,0,none⟩),(XI.mk k a c z wd sh d r dp rl im).agg, .int .u64 addr, .int .i64 n, .pointer (some ⟨g,0,none⟩)] wr fun e w'=>e= .returned (.int .i64 (mwrite W.m addr n (s.reg r)).2)∧TouTo w0 N bw mb ds p RL {W with m:=(mwrite W.m addr n (s.reg r)).1} g s wr w':=by
 have HST:Hid (∀t,_):=TwS.start h hs hg ⟨k,a,c,z,wd,sh,d,r,dp,rl,im⟩
 simp only [XI.agg]
 have HM:Hid (∀W',WM w0 N bw mb ds p RL W W'→_):=fun W' hW=>WM.memory hW
 have hv:=hs.ok.reg r
 have HR:Hid (∀W',WM w0 N bw mb ds p RL W W'→_):=fun W' hW=>WM.write hW addr n (s.reg r) ha hv
 have HD:=Lib.hid hr
 have r1:(0:Int)≤(r:Int):=by omega
 have r2:(r:Int)<16:=by omega
 clear h hs ha hd hr hg hv
 generalize {W with m:=(mwrite W.m addr n (s.reg r)).1}=W2 at*
 generalize (mwrite W.m addr n (s.reg r)).2=E at*
 go_enter Tryz.func178,Tryz.ntmps178
 go_upto_region 1 with fail
 refine wp_world (fun W1=>Hid (TwS w0 wr N bw mb ds p RL W g wr.heap.size ⟨k,a,c,z,wd,sh,d,r,dp,rl,im⟩ s W1)) (by exact HST.out _) ?_
 intro W1 HL
 clear HST
 obtain ⟨c0,c1,c2,c3,c4,c5,c6,c7,c8,c9,c10⟩:=XI.at HL.out.x
 clear c0 c1 c2 c3 c4 c5 c8 c9 c10
 have rg:=HL.out.st.reg HD.out
 go_region_with (first
  |(go_at_call 10;(with_reducible refine (HM.out _ HL.out.drew.wm).mono ?_);rintro e w1 ⟨rfl,rfl⟩)
  |(go_at_call 29;(with_reducible refine (HR.out _ HL.out.drew.wm).mono ?_);rintro e w2 ⟨rfl,hw2,hf2⟩))
 all_goals go_wp2_with fail
 all_goals go_ret
 all_goals exact ⟨rfl,TwS.end_ (HL.out.drew.turn hw2.out hf2.out)⟩
theorem touches3_any{w0 wr:World}{N:Nat}{bw mb p:Nat}{ds:List MapD}{RL:List Reg}{W:HW}(h:WM w0 N bw mb ds p RL W wr)(k a c z:Int)(wd sh:Bool)(d r:Nat)(dp rl im:Int)(addr:Nat)(n:Int)(g:Nat)(s:ST)(hs:SAt wr g s)(hg:N≤g)(ha:addr<18446744073709551616)(hd:d<16)(hr:r<16):
  Calls Tryz.prog 179 #[.pointer (some ⟨bw,0,none⟩),(XI.mk k a c z wd sh d r dp rl im).agg, .int .u64 addr, .int .i64 n, .pointer (some ⟨g,0,none⟩)] wr fun e w'=>e= .returned (.int .i64 (mwrite W.m addr n (s.reg d)).2)∧TouTo w0 N bw mb ds p RL {W with m:=(mwrite W.m addr n (s.reg d)).1} g (s.set 4 addr) wr w':=by
 have HST:Hid (∀t,_):=TwS.start h hs hg ⟨k,a,c,z,wd,sh,d,r,dp,rl,im⟩
 simp only [XI.agg]
 have HM:Hid (∀W',WM w0 N bw mb ds p RL W W'→_):=fun W' hW=>WM.memory hW
 have hv:=hs.ok.reg d
 have HR:Hid (∀W',WM w0 N bw mb ds p RL W W'→_):=fun W' hW=>WM.write hW addr n (s.reg d) ha hv
 have HD:=Lib.hid hd
 have HA:=Lib.hid ha
 have d1:(0:Int)≤(d:Int):=by omega
 have d2:(d:Int)<16:=by omega
 clear h hs ha hd hr hg hv
 generalize {W with m:=(mwrite W.m addr n (s.reg d)).1}=W2 at*
 generalize (mwrite W.m addr n (s.reg d)).2=E at*
 go_enter Tryz.func179,Tryz.ntmps179
 go_upto_region 1 with fail
 refine wp_world (fun W1=>Hid (TwS w0 wr N bw mb ds p RL W g wr.heap.size ⟨k,a,c,z,wd,sh,d,r,dp,rl,im⟩ s W1)) (by exact HST.out _) ?_
 intro W1 HL
 clear HST
 obtain ⟨c0,c1,c2,c3,c4,c5,c6,c7,c8,c9,c10⟩:=XI.at HL.out.x
 clear c0 c1 c2 c3 c4 c5 c8 c9 c10
 have rg:=HL.out.st.reg HD.out
 have r4:=HL.out.st.reg (i:=4) (by decide)
 have oo:=HL.out.st.open_
 go_region
 go_upto_region 3 with fail
 have HL2:=Lib.hid ((HL.out.setReg (i:=4) (by decide) HA.out).drew)
 go_wp2_with (first
  |(go_at_call 10;(with_reducible refine (HM.out _ HL2.out.wm).mono ?_);rintro e w1 ⟨rfl,rfl⟩)
  |(go_at_call 29;(with_reducible refine (HR.out _ HL2.out.wm).mono ?_);rintro e w2 ⟨rfl,hw2,hf2⟩))
 all_goals go_ret
 all_goals exact ⟨rfl,TwS.end_ (HL2.out.turn hw2.out hf2.out)⟩
theorem touches4_any{w0 wr:World}{N:Nat}{bw mb p:Nat}{ds:List MapD}{RL:List Reg}{W:HW}(h:WM w0 N bw mb ds p RL W wr)(k a c z:Int)(wd sh:Bool)(d r:Nat)(dp rl im:Int)(addr:Nat)(n:Int)(g:Nat)(s:ST)(hs:SAt wr g s)(hg:N≤g)(ha:addr<18446744073709551616)(hd:d<16)(hr:r<16):
  Calls Tryz.prog 180 #[.pointer (some ⟨bw,0,none⟩),(XI.mk k a c z wd sh d r dp rl im).agg, .int .u64 addr, .int .i64 n, .pointer (some ⟨g,0,none⟩)] wr fun e w'=>e= .returned (.int .i64 (mread W.m addr 8).2)∧TouTo w0 N bw mb ds p RL W g ((s.set 4 (farM (s.reg 4) 8)).set d (mread W.m addr 8).1) wr w':=by
 have HST:Hid (∀t,_):=TwS.start h hs hg ⟨k,a,c,z,wd,sh,d,r,dp,rl,im⟩
 simp only [XI.agg]
 have HR:Hid (∀W' s',WM w0 N bw mb ds p RL W W'→SAt W' g s'→_):=fun W' s' hW hs=>pop_any hW addr g s' hs hg ha
 have HV:=Lib.hid (mread_lt W.m addr 8)
 have HD:=Lib.hid hd
 have d1:(0:Int)≤(d:Int):=by omega
 have d2:(d:Int)<16:=by omega
 clear h hs ha hd hr hg
 generalize (mread W.m addr 8).1=V at*
 generalize (mread W.m addr 8).2=E at*
 go_enter Tryz.func180,Tryz.ntmps180
 go_upto_region 1 with fail
 refine wp_world (fun W1=>Hid (TwS w0 wr N bw mb ds p RL W g wr.heap.size ⟨k,a,c,z,wd,sh,d,r,dp,rl,im⟩ s W1)) (by exact HST.out _) ?_
 intro W1 HL
 clear HST
 obtain ⟨c0,c1,c2,c3,c4,c5,c6,c7,c8,c9,c10⟩:=XI.at HL.out.x
 clear c0 c1 c2 c3 c4 c5 c8 c9 c10
 go_wp2_with (go_at_call 181;(with_reducible refine (HR.out _ _ HL.out.wm HL.out.st).mono ?_);rintro e w2 ⟨rfl,ht⟩;replace HL:=Lib.hid (HL.out.to_ ht);clear ht;have c6':=(XI.at HL.out.x).2.2.2.2.2.2.1;have rg:=HL.out.st.reg HD.out;have oo:=HL.out.st.open_)
 go_region
 go_wp2_with fail
 all_goals go_ret
 all_goals exact ⟨rfl,TwS.end_ (HL.out.drew.setReg HD.out HV.out)⟩
theorem touches5_any{w0 wr:World}{N:Nat}{bw mb p:Nat}{ds:List MapD}{RL:List Reg}{W:HW}(h:WM w0 N bw mb ds p RL W wr)(k a c z:Int)(wd sh:Bool)(d r:Nat)(dp rl im:Int)(addr:Nat)(n:Int)(g:Nat)(s:ST)(hs:SAt wr g s)(hg:N≤g)(ha:addr<18446744073709551616)(hd:d<16)(hr:r<16):
  Calls Tryz.prog 182 #[.pointer (some ⟨bw,0,none⟩),(XI.mk k a c z wd sh d r dp rl im).agg, .int .u64 addr, .int .i64 n, .pointer (some ⟨g,0,none⟩)] wr fun e w'=>e= .returned (.int .i64 (mread W.m addr 8).2)∧TouTo w0 N bw mb ds p RL W g {(s.set 4 (farM (s.reg 4) 8)) with pc:=(mread W.m addr 8).1} wr w':=by
 have HST:Hid (∀t,_):=TwS.start h hs hg ⟨k,a,c,z,wd,sh,d,r,dp,rl,im⟩
 simp only [XI.agg]
 have HR:Hid (∀W' s',WM w0 N bw mb ds p RL W W'→SAt W' g s'→_):=fun W' s' hW hs=>pop_any hW addr g s' hs hg ha
 have HV:=Lib.hid (mread_lt W.m addr 8)
 have HD:=Lib.hid hd
 clear h hs ha hd hr hg
 generalize (mread W.m addr 8).1=V at*
 generalize (mread W.m addr 8).2=E at*
 go_enter Tryz.func182,Tryz.ntmps182
 go_upto_region 1 with fail
 refine wp_world (fun W1=>Hid (TwS w0 wr N bw mb ds p RL W g wr.heap.size ⟨k,a,c,z,wd,sh,d,r,dp,rl,im⟩ s W1)) (by exact HST.out _) ?_
 intro W1 HL
 clear HST
 obtain ⟨c0,c1,c2,c3,c4,c5,c6,c7,c8,c9,c10⟩:=XI.at HL.out.x
 clear c0 c1 c2 c3 c4 c5 c8 c9 c10
 go_wp2_with (go_at_call 181;(with_reducible refine (HR.out _ _ HL.out.wm HL.out.st).mono ?_);rintro e w2 ⟨rfl,ht⟩;replace HL:=Lib.hid (HL.out.to_ ht);clear ht;have oo:=HL.out.st.open_;have c20:=HL.out.st.at.2.2.2.2)
 all_goals go_ret
 all_goals exact ⟨rfl,TwS.end_ (HL.out.setPC HV.out)⟩
theorem callM_lt{w0 wr:World}{N bw mb:Nat}{ds:List MapD}{p:Nat}{RL:List Reg}{W:HW}(h:WM w0 N bw mb ds p RL W wr)(id a0 a1 a2 a3:Int):0≤(callM ds W id a0 a1 a2 a3).1.1∧(callM ds W id a0 a1 a2 a3).1.1<18446744073709551616:=by
 obtain ⟨h1,h2,_,_⟩:=h.tabs
 unfold callM
 split
 ·exact ⟨by simp,by simp⟩
 ·split
  ·show 0≤drawN W.D∧drawN W.D<_
   unfold drawN
   cases hD:W.D with
   |nil=>exact ⟨by simp [List.headD],by simp [List.headD]⟩
   |cons d l=>exact h.ok.draws d (by rw [hD];exact List.mem_cons_self)
  ·dsimp only
   split
   ·exact ⟨by simp,by simp⟩
   ·split
    ·exact ⟨by simp,by simp⟩
    ·split
     ·exact mlookup_lt h1 h2 _ _
     ·split
      ·exact ⟨Int.emod_nonneg _ (by decide),Int.emod_lt_of_pos _ (by decide)⟩
      ·split
       ·exact ⟨by simp,by simp⟩
       ·split
        ·exact ⟨by simp,by simp⟩
        ·exact ⟨Int.emod_nonneg _ (by decide),Int.emod_lt_of_pos _ (by decide)⟩
structure CwS(w0 wr:World)(N bw mb:Nat)(ds:List MapD)(p:Nat)(RL:List Reg)(W:HW)(g:Nat)(s:ST)(w:World):Prop where
 wm:WM w0 N bw mb ds p RL W w
 st:SAt w g s
 fr:Fr (fun k=>Zof w0 N k∨k=g) wr w
 lg:N≤g
theorem CwS.start{w0 wr:World}{N bw mb:Nat}{ds:List MapD}{p:Nat}{RL:List Reg}{W:HW}{g:Nat}{s:ST}(h:WM w0 N bw mb ds p RL W wr)(hs:SAt wr g s)(hg:N≤g):CwS w0 wr N bw mb ds p RL W g s wr:=⟨h,hs,Fr.refl _ _,hg⟩
theorem CwS.no{w0 wr w w':World}{N bw mb:Nat}{ds:List MapD}{p:Nat}{RL:List Reg}{W:HW}{g:Nat}{s:ST}(h:CwS w0 wr N bw mb ds p RL W g s w)(hf:Fr No w w'):CwS w0 wr N bw mb ds p RL W g s w':=
 ⟨h.wm.to hf,h.st.fr hf id,h.fr.trans hf.any,h.lg⟩
theorem CwS.drew{w0 wr w:World}{N bw mb:Nat}{ds:List MapD}{p:Nat}{RL:List Reg}{W:HW}{g:Nat}{s:ST}(h:CwS w0 wr N bw mb ds p RL W g s w):CwS w0 wr N bw mb ds p RL W g s w.drew:=h.no (Fr.refl No w).drew
theorem CwS.turn{w0 wr w w':World}{N bw mb:Nat}{ds:List MapD}{p:Nat}{RL:List Reg}{W W':HW}{g:Nat}{s:ST}(h:CwS w0 wr N bw mb ds p RL W g s w)(hm:WM w0 N bw mb ds p RL W' w')(hf:Fr (Zof w0 N) w w'):CwS w0 wr N bw mb ds p RL W' g s w':=
 ⟨hm,h.st.fr hf (fun hz=>by have:=hz.2;have:=h.lg;omega),h.fr.trans (hf.mono fun _ _ hk=> .inl hk),h.lg⟩
theorem CwS.box{w0 wr w w':World}{N bw mb:Nat}{ds:List MapD}{p:Nat}{RL:List Reg}{W:HW}{g:Nat}{s s':ST}(h:CwS w0 wr N bw mb ds p RL W g s w)(hs:SAt w' g s')(hf:Fr (fun k=>k=g) w w'):CwS w0 wr N bw mb ds p RL W g s' w':=
 ⟨h.wm.beside hf (fun k hk=>by rw [hk];exact h.lg),hs,h.fr.trans (hf.mono fun _ _ hk=> .inr hk),h.lg⟩
theorem CwS.setReg{w0 wr w:World}{N bw mb:Nat}{ds:List MapD}{p:Nat}{RL:List Reg}{W:HW}{g:Nat}{s:ST}(h:CwS w0 wr N bw mb ds p RL W g s w){i:Nat}(hi:i<16){v:Nat}(hv:v<18446744073709551616):CwS w0 wr N bw mb ds p RL W g (s.set i v) (w.setCell ⟨g,i,none⟩ (.int .u64 v)):=
 h.box (h.st.setReg hi hv) ((Fr.refl (fun k=>k=g) w).setCell (p:=⟨g,i,none⟩) (.inr rfl) _)
theorem CwS.end_{w0 wr w:World}{N bw mb:Nat}{ds:List MapD}{p:Nat}{RL:List Reg}{W:HW}{g:Nat}{s:ST}(h:CwS w0 wr N bw mb ds p RL W g s w):TouTo w0 N bw mb ds p RL W g s wr w:=⟨h.wm,h.st,h.fr⟩
theorem id_wrap(to_:Nat):IntKind.i64.wrap (IntKind.u64.wrap ((to_:Int)-8388608))=idM to_:=by
 rw [IntKind.wrap_u64,IntWalk.i64_left]
 unfold idM signI
 unfold RowKit.wrap64
 simp only [Nat.reducePow,Nat.reduceSub,Int.reducePow]
 split<;>omega
theorem mcall_not{w0 wr:World}{N:Nat}{bw mb p:Nat}{ds:List MapD}{RL:List Reg}{W:HW}(h:WM w0 N bw mb ds p RL W wr)(hm:MachAt w0)(to_ g:Nat)(s:ST)(hs:SAt wr g s)(hg:N≤g)(hno:argHas (idM to_)=false):
  Calls Tryz.prog 37 #[.pointer (some ⟨bw,0,none⟩), .int .u64 to_, .pointer (some ⟨g,0,none⟩)] wr fun e w'=>e= .returned (.int .i64 110)∧TouTo w0 N bw mb ds p RL W g s wr w':=by
 have HL:=Lib.hid (CwS.start h hs hg)
 have hA:argA (idM to_)= -1:=by unfold argA;rw [hno];rfl
 have e1:=id_wrap to_
 have HA:Hid (∀W',Fr No wr W'→Calls Tryz.prog 66 #[.int .i64 (idM to_)] W' fun e w'=>e= .returned (.int .i64 (-1))∧W'=w'):=fun W' hW=>by
  rw [←hA]
  exact args_any (idM to_) W' ((hm.args.fr h.fr).fr hW) (i64_wf (sign64 _))
 clear h hs hg hm hno hA
 generalize idM to_=I at*
 go_enter Tryz.func37,Tryz.ntmps37
 go_wp2_with (go_at_call 66;(with_reducible refine (HA.out _ (by exact Fr.refl _ _)).mono ?_);rintro e w1 ⟨rfl,rfl⟩)
 go_ret
 exact ⟨rfl,HL.out.end_⟩
theorem lost_0(W:World):(Instr.index 157 (.agg #[.int .i64 1, .int .i64 2, .int .i64 6, .int .i64 7, .int .i64 8, .int .i64 9, .int .i64 10, .int .i64 11]) (.int .i64 0)).run Tryz.prog W= .ok (.int .i64 1) W:=by kernel_rfl
theorem lost_1(W:World):(Instr.index 157 (.agg #[.int .i64 1, .int .i64 2, .int .i64 6, .int .i64 7, .int .i64 8, .int .i64 9, .int .i64 10, .int .i64 11]) (.int .i64 1)).run Tryz.prog W= .ok (.int .i64 2) W:=by kernel_rfl
theorem lost_2(W:World):(Instr.index 157 (.agg #[.int .i64 1, .int .i64 2, .int .i64 6, .int .i64 7, .int .i64 8, .int .i64 9, .int .i64 10, .int .i64 11]) (.int .i64 2)).run Tryz.prog W= .ok (.int .i64 6) W:=by kernel_rfl
theorem lost_3(W:World):(Instr.index 157 (.agg #[.int .i64 1, .int .i64 2, .int .i64 6, .int .i64 7, .int .i64 8, .int .i64 9, .int .i64 10, .int .i64 11]) (.int .i64 3)).run Tryz.prog W= .ok (.int .i64 7) W:=by kernel_rfl
theorem lost_4(W:World):(Instr.index 157 (.agg #[.int .i64 1, .int .i64 2, .int .i64 6, .int .i64 7, .int .i64 8, .int .i64 9, .int .i64 10, .int .i64 11]) (.int .i64 4)).run Tryz.prog W= .ok (.int .i64 8) W:=by kernel_rfl
theorem lost_5(W:World):(Instr.index 157 (.agg #[.int .i64 1, .int .i64 2, .int .i64 6, .int .i64 7, .int .i64 8, .int .i64 9, .int .i64 10, .int .i64 11]) (.int .i64 5)).run Tryz.prog W= .ok (.int .i64 9) W:=by kernel_rfl
theorem lost_6(W:World):(Instr.index 157 (.agg #[.int .i64 1, .int .i64 2, .int .i64 6, .int .i64 7, .int .i64 8, .int .i64 9, .int .i64 10, .int .i64 11]) (.int .i64 6)).run Tryz.prog W= .ok (.int .i64 10) W:=by kernel_rfl
theorem lost_7(W:World):(Instr.index 157 (.agg #[.int .i64 1, .int .i64 2, .int .i64 6, .int .i64 7, .int .i64 8, .int .i64 9, .int .i64 10, .int .i64 11]) (.int .i64 7)).run Tryz.prog W= .ok (.int .i64 11) W:=by kernel_rfl
theorem mcall_any{w0 wr:World}{N:Nat}{bw mb p:Nat}{ds:List MapD}{RL:List Reg}{W:HW}(h:WM w0 N bw mb ds p RL W wr)(hm:MachAt w0)(to_ g:Nat)(s:ST)(hs:SAt wr g s)(hg:N≤g)(hno:argHas (idM to_)=true):
  Calls Tryz.prog 37 #[.pointer (some ⟨bw,0,none⟩), .int .u64 to_, .pointer (some ⟨g,0,none⟩)] wr fun e w'=>e= .returned (.int .i64 (callM ds W (idM to_) (s.reg 7) (s.reg 6) (s.reg 2) (s.reg 1)).1.2)∧TouTo w0 N bw mb ds p RL (callM ds W (idM to_) (s.reg 7) (s.reg 6) (s.reg 2) (s.reg 1)).2 g (lostM s (callM ds W (idM to_) (s.reg 7) (s.reg 6) (s.reg 2) (s.reg 1)).1.1.toNat) wr w':=by
 have HL:=Lib.hid (CwS.start h hs hg)
 have hA:argA (idM to_)=argN (idM to_):=by unfold argA;rw [hno];rfl
 have hA0:(argN (idM to_)<0)=False:=by
  unfold argHas at hno
  rcases (of_decide_eq_true hno) with e|e|e|e<;>(rw [e];simp [argN])
 have e1:=id_wrap to_
 have hw:=i64_wf (sign64 (((to_:Int)-8388608)%18446744073709551616).toNat)
 have HA:Hid (∀W',Fr No wr W'→Calls Tryz.prog 66 #[.int .i64 (idM to_)] W' fun e w'=>e= .returned (.int .i64 (argN (idM to_)))∧W'=w'):=fun W' hW=>by
  rw [←hA]
  exact args_any (idM to_) W' ((hm.args.fr h.fr).fr hW) hw
 have HC:Hid (∀W',WM w0 N bw mb ds p RL W W'→_):=fun W' hW=>WM.call hW hm.args (idM to_) (s.reg 7) (s.reg 6) (s.reg 2) (s.reg 1) (s.reg 8) hw ⟨Int.natCast_nonneg _,by have:=hs.ok.reg 7;omega⟩ ⟨Int.natCast_nonneg _,by have:=hs.ok.reg 6;omega⟩ ⟨Int.natCast_nonneg _,by have:=hs.ok.reg 2;omega⟩
 have HV:=Lib.hid (callM_lt h (idM to_) (s.reg 7) (s.reg 6) (s.reg 2) (s.reg 1))
 have HLO:Hid (∀W',Fr (fun k=>Zof w0 N k∨k=g) wr W'→CellsAt W' 4 0 lostC):=fun W' hW=>by
  have h5:4<w0.heap.size:=World.block_lt_of_cell? w0 _ (hm.lost 0 _ rfl)
  have hlo:=h.lo
  have hbw:=h.bw
  refine hW.cells (h.fr.cells hm.lost id) ?_
  rintro (hz|hz)
  ·have:=hz.1;omega
  ·omega
 unfold five at HC
 clear h hs hg hm hno hA
 generalize idM to_=I at*
 generalize argN I=AN at*
 generalize (callM ds W I (s.reg 7) (s.reg 6) (s.reg 2) (s.reg 1)).2=W2 at*
 generalize (callM ds W I (s.reg 7) (s.reg 6) (s.reg 2) (s.reg 1)).1.2=E2 at*
 generalize (callM ds W I (s.reg 7) (s.reg 6) (s.reg 2) (s.reg 1)).1.1=R2 at*
 obtain ⟨V,rfl⟩:∃V:Nat,R2=(V:Int):=⟨R2.toNat,by have:=HV.out;omega⟩
 have HV2:Hid (V<18446744073709551616):=Lib.hid (by have:=HV.out;omega)
 clear HV
 rw [Int.toNat_natCast]
 have r7:=HL.out.st.reg (i:=7) (by decide)
 have r6:=HL.out.st.reg (i:=6) (by decide)
 have r2:=HL.out.st.reg (i:=2) (by decide)
 have r1:=HL.out.st.reg (i:=1) (by decide)
 have r8:=HL.out.st.reg (i:=8) (by decide)
 generalize s.reg 7=V7 at*
 generalize s.reg 6=V6 at*
 generalize s.reg 2=V2 at*
 generalize s.reg 1=V1 at*
 generalize s.reg 8=V8 at*
 have an:decide (AN<0)=false:=by simp [hA0]
 clear hA0
 have HG:=Lib.hid HL.out.lg
 have HK:Hid (∀W',Hid (Fr (Zof w0 N) wr.drew W')→W'.cell? ⟨g,7,none⟩=some (.int .u64 V7)∧W'.cell? ⟨g,6,none⟩=some (.int .u64 V6)∧W'.cell? ⟨g,2,none⟩=some (.int .u64 V2)∧W'.cell? ⟨g,1,none⟩=some (.int .u64 V1)∧W'.cell? ⟨g,8,none⟩=some (.int .u64 V8)):=fun W' hf=>by
  have hz:¬Zof w0 N g:=fun hz=>by have:=hz.2;have:=HG.out;omega
  exact ⟨hf.out.cell r7 hz,hf.out.cell r6 hz,hf.out.cell r2 hz,hf.out.cell r1 hz,hf.out.cell r8 hz⟩
 go_enter Tryz.func37,Tryz.ntmps37
 go_upto_region 4 with (go_at_call 66;(with_reducible refine (HA.out _ (by exact Fr.refl _ _)).mono ?_);rintro e w1 ⟨rfl,rfl⟩)
 go_cut [8,9] (fun s8 s9 wx=>s8= .int .u64 V∧s9= .int .i64 E2∧Hid (CwS w0 wr N bw mb ds p RL W2 g s wx))
 case first=>
  have H0:wr.drew.cell? ⟨g,7,none⟩=some (.int .u64 V7)∧wr.drew.cell? ⟨g,6,none⟩=some (.int .u64 V6)∧wr.drew.cell? ⟨g,2,none⟩=some (.int .u64 V2)∧wr.drew.cell? ⟨g,1,none⟩=some (.int .u64 V1)∧wr.drew.cell? ⟨g,8,none⟩=some (.int .u64 V8):=⟨r7,r6,r2,r1,r8⟩
  go_region_held3 (fun W'=>W'.cell? ⟨g,7,none⟩=some (.int .u64 V7)∧W'.cell? ⟨g,6,none⟩=some (.int .u64 V6)∧W'.cell? ⟨g,2,none⟩=some (.int .u64 V2)∧W'.cell? ⟨g,1,none⟩=some (.int .u64 V1)∧W'.cell? ⟨g,8,none⟩=some (.int .u64 V8)) (first|assumption|exact HK.out _ hf2) (first|(go_at_call 67;(with_reducible refine (HC.out _ HL.out.drew.wm).mono ?_);rintro e w2 ⟨rfl,hw2,hf2⟩))
  all_goals go_wp2_with fail
  all_goals go_meet
  all_goals exact ⟨rfl,rfl,HL.out.drew.turn hw2.out hf2.out⟩
 case rest=>
  obtain ⟨rfl,rfl,HL2⟩:=hcut
  clear r7 r6 r2 r1 r8 HK HC HA HL
  have hlo:=HLO.out _ HL2.out.fr
  unfold lostC at hlo
  have q0:=hlo 0 _ rfl
  have q1:=hlo 1 _ rfl
  have q2:=hlo 2 _ rfl
  have q3:=hlo 3 _ rfl
  have q4:=hlo 4 _ rfl
  have q5:=hlo 5 _ rfl
  have q6:=hlo 6 _ rfl
  have q7:=hlo 7 _ rfl
  simp only [Nat.zero_add] at q0 q1 q2 q3 q4 q5 q6 q7
  clear hlo HLO
  have r0:=HL2.out.st.reg (i:=0) (by decide)
  have r1:=HL2.out.st.reg (i:=1) (by decide)
  have r2:=HL2.out.st.reg (i:=2) (by decide)
  have r6:=HL2.out.st.reg (i:=6) (by decide)
  have r7:=HL2.out.st.reg (i:=7) (by decide)
  have r8:=HL2.out.st.reg (i:=8) (by decide)
  have r9:=HL2.out.st.reg (i:=9) (by decide)
  have r10:=HL2.out.st.reg (i:=10) (by decide)
  have r11:=HL2.out.st.reg (i:=11) (by decide)
  have oo:=HL2.out.st.open_
  have HEND:=Lib.hid (CwS.end_ (((((((((HL2.out.setReg (i:=1) (by decide) (v:=0) (by decide)).setReg (i:=2) (by decide) (v:=0) (by decide)).setReg (i:=6) (by decide) (v:=0) (by decide)).setReg (i:=7) (by decide) (v:=0) (by decide)).setReg (i:=8) (by decide) (v:=0) (by decide)).setReg (i:=9) (by decide) (v:=0) (by decide)).setReg (i:=10) (by decide) (v:=0) (by decide)).setReg (i:=11) (by decide) (v:=0) (by decide)).setReg (i:=0) (by decide) HV2.out))
  clear HL2 HV2
  have x0:=lost_0
  have x1:=lost_1
  have x2:=lost_2
  have x3:=lost_3
  have x4:=lost_4
  have x5:=lost_5
  have x6:=lost_6
  have x7:=lost_7
  go_wp2_with fail
  go_rounds 9
  go_ret
  exact ⟨rfl,HEND.out⟩
end Go.Proofs.YtjcgmhlbkheadaaGreatDoor
