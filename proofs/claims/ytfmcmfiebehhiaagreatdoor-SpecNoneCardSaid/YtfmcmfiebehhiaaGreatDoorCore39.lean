/- package spec: guess. -/
import Derived.Test.YtfmcmfiebehhiaaGreatDoorCore38
import Derived.Deep.CutRange
set_option linter.all false
set_option linter.unusedVariables false
set_option linter.unusedSimpArgs false
set_option maxRecDepth 100000
set_option maxHeartbeats 8000000
namespace Go.Proofs.YtfmcmfiebehhiaaGreatDoor
open Go.Proofs.Tryz
open Go.RowKit
theorem sguess_any{w0 w:World}{N bw mb pk bp br bi bs window:Nat}{ds:List MapD}{RL:RQ}{code script:List UInt8}{R K P:Nat→Prop}{q:PM}{t:TM}(h:Both w0 N bw mb ds pk RL bp br bi bs code window script R K P q t w)(hm:MachAt w0)(hw:window≤16)(hlc:code.length≤1000000)(hl:q.waits.length≤800000)(ht:t.tr.length≤800000)(hq:t.sq≤900000000)(hkk:∀pc x next,fetchM code pc=some (x,next)→okk x.kind=true):
  Calls prog 38 #[.pointer (some ⟨br,0,none⟩), .pointer (some ⟨bp,0,none⟩)] w fun e w'=>e= .returned (.tuple #[])∧∃R',Hid (SpRun br bi bs code window script R' K (goM ds code window q t) w')∧Hid (∀k,R' k→R k∨w.heap.size≤k)∧Hid (Fr (fun k=>R k∨P k∨Zof w0 N RL k) w w'):=by
 have HH:=Lib.hid h
 have HM:=Lib.hid hm
 have HLC:=Lib.hid hlc
 have HKK:=Lib.hid hkk
 clear hkk
 obtain ⟨i0,hi0,hz0,hz1,hz2⟩:=info_parts Tryz.info_u64t
 obtain ⟨G,hG⟩:∃G,goM ds code window q t=G:=⟨_,rfl⟩
 rw [hG]
 have HG0:=Lib.hid hG
 clear h hm hlc hG
 have c1:=HH.out.run.c1
 go_enter func38,ntmps38
 go_upto_region 1 with fail
 clear c1
 go_loopw [14] (fun s14 wr=>∃k:Nat,k≤window∧s14= .int .i64 k∧Hid (∃R' P' q' t',GR w0 N bw mb ds pk RL bp br bi bs code window script R K P w R' P' q' t' wr∧goM ds code (window-k) q' t'=G∧q'.waits.length+(window-k)≤900000∧t'.tr.length+2*(window-k)≤900000∧t'.sq+(window-k)≤1000000000)) (fun s14 _=>window-(intOf s14).toNat)
 case atStart=>exact ⟨0,Nat.zero_le _,rfl,Lib.hid ⟨R,P,q,t,GR.start HH.out,HG0.out,by omega,by omega,by omega⟩⟩
 case round=>
  obtain ⟨k,hk,rfl,HI⟩:=hrel
  obtain ⟨R1,P1,q1,t1,hgr,hgo,b1,b2,b3⟩:=HI.out
  clear HH HG0 HI hl ht hq
  have HR:=Lib.hid hgr
  have HGO:=Lib.hid hgo
  clear hgr hgo
  by_cases hkw:k<window
  ·obtain ⟨n,hn⟩:∃n,window-k=n+1:=⟨window-k-1,by omega⟩
   rw [hn] at HGO b1 b2 b3
   obtain ⟨f,hf⟩:∃f,fetchM code q1.s.pc=f:=⟨_,rfl⟩
   have HFT:Hid (∀W,Fr No wr W→Calls prog 16 #[.string (bA' code), .int .u64 q1.s.pc] W fun e w'=>e= .returned (fetchV f)∧Fr No W w'):=Lib.hid fun W hW=>hf ▸ fetch_any code HLC.out q1.s.pc W (HM.out.fr (HR.out.both.path.no hW).wm.fr)
   go_upto_region 2 with fail
   go_cut [4,5,6] from 16 to 29 (fun s4 s5 s6 wx=>∃bx:Nat,s4= .pointer (some ⟨bx,0,none⟩)∧s5= .int .u64 (fetchN f)∧s6= .int .i64 (fetchE f)∧Hid (XB wx bx (fetchX f)∧wr.heap.size≤bx∧Fr No wr wx))
   case first=>
    rename_i J K' hJ hK
    refine wp_region_made [(0, .pointer (some ⟨br,0,none⟩)),(1, .pointer (some ⟨bp,0,none⟩))]
     [some (.pointer (some ⟨br,0,none⟩)),some (.pointer (some ⟨br,0,none⟩)),some (.pointer (some ⟨br,0,none⟩)),some (.string (bA' code)),some (.pointer (some ⟨bp,0,none⟩)),some (.pointer (some ⟨bp,0,none⟩)),some (.pointer (some ⟨bp,1,none⟩)),some (.pointer (some ⟨bp,21,none⟩)),some (.int .u64 q1.s.pc),none,some (fetchV f),some (fetchX f).agg,some (.int .u64 (fetchN f)),some (.int .i64 (fetchE f)),none,none,some (.int .u64 (fetchN f)),some (.int .i64 (fetchE f))]
     (fun h W=>FeS wr f (h 9) (h 14) (h 15) W) (by kernel_rfl) (by kernel_rfl) (by kernel_rfl) (by kernel_rfl) ⟨rfl,rfl,trivial⟩ ⟨(Fr.refl (From wr) wr).drew,(fun u hu=>by cases hu),fun _=>rfl,fun u hu=>by cases hu⟩ ?_ ?_ ?_
    ·intro k o c ho hc h A' W' hS hpre hb
     have hf0:=hS.fr.ours
     match k,ho,hc,hpre with
     |0,ho,hc,hpre=>cases ho;cases hc;exact do_move (base_val hb 0 (by simp))
     |1,ho,hc,hpre=>cases ho;cases hc;exact do_nil (pre_val hpre 0 17 (by kernel_rfl) rfl rfl)
     |2,ho,hc,hpre=>
      cases ho;cases hc
      have e:=pre_val hpre 1 18 (by kernel_rfl) rfl rfl
      show (execOp A'.eval ⟨some 19, .fieldAddr 79 (.tmp 18) 0,_,_,_,_⟩).run prog W'=_
      simp only [execOp,e]
      first|kernel_rfl|simp [go_sem]
     |3,ho,hc,hpre=>
      cases ho;cases hc
      have c0:=hf0.cell HR.out.both.run.c0 id
      exact do_load (pre_val hpre 2 19 (by kernel_rfl) rfl rfl) (by simp [go_sem,c0])
     |4,ho,hc,hpre=>cases ho;cases hc;exact do_move (base_val hb 1 (by simp))
     |5,ho,hc,hpre=>cases ho;cases hc;exact do_nil (pre_val hpre 4 21 (by kernel_rfl) rfl rfl)
     |6,ho,hc,hpre=>
      cases ho;cases hc
      have e:=pre_val hpre 5 22 (by kernel_rfl) rfl rfl
      show (execOp A'.eval ⟨some 23, .fieldAddr 74 (.tmp 22) 1,_,_,_,_⟩).run prog W'=_
      simp only [execOp,e]
      first|kernel_rfl|simp [go_sem]
     |7,ho,hc,hpre=>
      cases ho;cases hc
      have e:=pre_val hpre 6 23 (by kernel_rfl) rfl rfl
      show (execOp A'.eval ⟨some 24, .fieldAddr 68 (.tmp 23) 5,_,_,_,_⟩).run prog W'=_
      simp only [execOp,e]
      first|kernel_rfl|simp [go_sem]
     |8,ho,hc,hpre=>
      cases ho;cases hc
      have cp:=hf0.cell HR.out.both.path.pc id
      exact do_load (pre_val hpre 7 24 (by kernel_rfl) rfl rfl) (by simp [go_sem,cp])
     |9,ho,hc,hpre=>cases hc
     |10,ho,hc,hpre=>
      cases ho;cases hc
      obtain ⟨v,h1,h2⟩:=pre_made1 hpre 9 26 (by kernel_rfl) rfl rfl
      exact do_move (h2.trans (hS.val v h1))
     |11,ho,hc,hpre=>cases ho;cases hc;exact do_extract ((pre_val hpre 10 16 (by kernel_rfl) rfl rfl).trans (fetchV_is f)) rfl
     |12,ho,hc,hpre=>cases ho;cases hc;exact do_extract ((pre_val hpre 10 16 (by kernel_rfl) rfl rfl).trans (fetchV_is f)) rfl
     |13,ho,hc,hpre=>cases ho;cases hc;exact do_extract ((pre_val hpre 10 16 (by kernel_rfl) rfl rfl).trans (fetchV_is f)) rfl
     |14,ho,hc,hpre=>cases hc
     |15,ho,hc,hpre=>cases hc
     |16,ho,hc,hpre=>cases ho;cases hc;exact do_assign (pre_val hpre 12 28 (by kernel_rfl) rfl rfl)
     |17,ho,hc,hpre=>cases ho;cases hc;exact do_assign (pre_val hpre 13 29 (by kernel_rfl) rfl rfl)
     |n+18,ho,hc,hpre=>cases hc
    ·intro k o ho hc h A' W' hdf hi hS hpre hb
     match k,ho,hc,hi,hpre with
     |9,ho,hc,hi,hpre=>
      cases ho
      have e1:A'.eval (.tmp 20)= .string (bA' code):=pre_val2 hpre 3 20 (by kernel_rfl) rfl rfl
      have e2:A'.eval (.tmp 25)= .int .u64 q1.s.pc:=pre_val2 hpre 8 25 (by kernel_rfl) rfl rfl
      refine do_call (f:=16) (args:= #[.string (bA' code), .int .u64 q1.s.pc]) ?_ ((HFT.out W' hS.fr.ours).mono fun e w' hh=> ?_)
      ·show (execOp A'.eval ⟨some 26, .call {callee:= .value (.func 16),args:= #[.tmp 20, .tmp 25],argTypes:=_},_,_,_,_⟩).run prog W'=_
       simp [execOp,resolve,invoke,e1,e2,go_sem]
       exact ⟨by rw [←Array.getD_eq_getD_getElem?];exact e1,by rw [←Array.getD_eq_getD_getElem?];exact e2⟩
      ·obtain ⟨rfl,hff⟩:=hh
       refine ⟨_,rfl,_,rfl,?_⟩
       show FeS wr f (some (fetchV f)) (h 14) (h 15) w'
       refine ⟨hS.fr.trans hff.any,fun v hv=>(Option.some.inj hv).symm,hS.dep,fun v hv=> ?_⟩
       obtain ⟨b,e,h1,h2⟩:=hS.box v hv
       exact ⟨b,e,h1,h2.fr hff id⟩
     |14,ho,hc,hi,hpre=>
      cases ho
      have fa:Fr No W' (W'.alloc (.cells XI.zero.cells.toArray 48)):=fr_alloc _ _
      refine do_alloc (z:=XI.zero.cells.toArray) (by kernel_rfl) ⟨.pointer (some ⟨W'.heap.size,0,none⟩),rfl,?_⟩
      show FeS wr f (h 9) (some (.pointer (some ⟨W'.heap.size,0,none⟩))) (h 15) _
      refine ⟨hS.fr.trans fa.any,hS.val,fun hc=>(by cases hc),fun v hv=>⟨W'.heap.size,(Option.some.inj hv).symm,hS.fr.size,?_⟩⟩
      rw [if_pos (hS.dep hi)]
      exact XB.new W' _ _
     |15,ho,hc,hi,hpre=>
      cases ho
      obtain ⟨v,h1,h2⟩:=pre_made hpre 14 4 (by kernel_rfl) rfl rfl
      obtain ⟨b,rfl,hb2,hs⟩:=hS.box v h1
      have fb:Fr (fun k=>k=b) W' (W'.setCells b 0 (fetchX f).cells):=(Fr.refl (fun k=>k=b) W').setCells (.inr rfl) 0 _
      refine do_store h2 (pre_val2 hpre 11 27 (by kernel_rfl) rfl rfl) (by exact hs.there) (by exact XI.info _) (all_oneCell_toArray xcells_one) ⟨undef,rfl,?_⟩
      show FeS wr f (h 9) (h 14) (some undef) (W'.setCells b 0 (fetchX f).cells)
      refine ⟨hS.fr.trans (fb.mono fun k _ hk=>by show wr.heap.size≤k;omega),hS.val,fun hc=>absurd (hc.symm.trans h1) (by simp),fun v hv=>⟨b,(Option.some.inj (h1.symm.trans hv)).symm,hb2,?_⟩⟩
      rw [if_neg (by simp)]
      exact hs.stored _
     |0,ho,hc,hi,hpre=>cases hc
     |1,ho,hc,hi,hpre=>cases hc
     |2,ho,hc,hi,hpre=>cases hc
     |3,ho,hc,hi,hpre=>cases hc
     |4,ho,hc,hi,hpre=>cases hc
     |5,ho,hc,hi,hpre=>cases hc
     |6,ho,hc,hi,hpre=>cases hc
     |7,ho,hc,hi,hpre=>cases hc
     |8,ho,hc,hi,hpre=>cases hc
     |10,ho,hc,hi,hpre=>cases hc
     |11,ho,hc,hi,hpre=>cases hc
     |12,ho,hc,hi,hpre=>cases hc
     |13,ho,hc,hi,hpre=>cases hc
     |16,ho,hc,hi,hpre=>cases hc
     |17,ho,hc,hi,hpre=>cases hc
     |n+18,ho,hc,hi,hpre=>cases ho
    ·intro h V' W' hV hS
     have e14:h 14=some (V' 14):=hV 14 (by decide)
     have e15:h 15=some (V' 15):=hV 15 (by decide)
     have e16:V' 16= .int .u64 (fetchN f):=(Option.some.inj (hV 16 (by decide))).symm
     have e17:V' 17= .int .i64 (fetchE f):=(Option.some.inj (hV 17 (by decide))).symm
     obtain ⟨b,e,hb2,hs⟩:=hS.box _ e14
     rw [e15,if_neg (by simp)] at hs
     exact hK _ _ (Met.intro (hJ _ _ ⟨V' 14,V' 16,V' 17,V' 10,V' 0,V' 1,V' 2,V' 3,V' 4,V' 5,V' 6,V' 7,V' 8,V' 9,V' 11,V' 12,V' 13,⟨b,e,e16,e17,Lib.hid ⟨hs,hb2,hS.fr.ours⟩⟩,by kernel_rfl⟩))
   case rest=>
    obtain ⟨bx,rfl,rfl,rfl,HX⟩:=hcut
    clear HFT
    cases f with
    |none=>
     have HGN:Hid (t1=G):=Lib.hid ((goM_none hf).symm.trans HGO.out)
     have HR2:=Lib.hid (HR.out.no HX.out.2.2)
     clear HGO hf
     go_wp2_with fail
     first|go_end0|refine bodyPost_ret (results_none rfl _ _ _) rfl ?_
     have:=HR2.out.end_
     rw [HGN.out] at this
     exact ⟨rfl,R1,this⟩
    |some fq=>
     obtain ⟨x,next⟩:=fq
     have HXO:=Lib.hid (fetch_ok hf)
     have HF:=Lib.hid hf
     have HR2:=Lib.hid (HR.out.no HX.out.2.2)
     have HBX:Hid (XB wc bx x∧¬R1 bx∧¬P1 bx∧N≤bx):=Lib.hid ⟨HX.out.1,fun hr=>by have:=HR.out.both.run.rlt _ hr;have:=HX.out.2.1;omega,fun hp=>by have:=HR.out.both.path.plt _ hp;have:=HX.out.2.1;omega,by have:=HR.out.both.path.wm.bound;have:=HX.out.2.1;omega⟩
     clear HR HX hf
     simp only [fetchN,fetchE]
     have c4:=HR2.out.both.run.c4
     have o4:=HR2.out.both.run.open_ 4
     have k0:=(XI.at HBX.out.1.cells).1
     obtain ⟨sq1,hsq1⟩:∃n,t1.sq+1=n:=⟨_,rfl⟩
     have ek:wrap64 ((t1.sq:Int)+1)=(sq1:Int):=by rw [IntWalk.wrap64_in _ (by omega)];omega
     have HSQ:Hid (SpRun br bi bs code window script R1 K {t1 with sq:=sq1} (wc.setCell ⟨br,4,none⟩ (.int .i64 sq1))∧Fr R1 wc (wc.setCell ⟨br,4,none⟩ (.int .i64 sq1))):=Lib.hid (HR2.out.both.run.squash sq1)
     have HBB:=Lib.hid (And.intro b1 (And.intro b2 (And.intro b3 hn)))
     clear b1 b2 b3 hn
     go_upto_region 5 with fail
     refine wp_box (fun W=>Hid (SpRun br bi bs code window script R1 K {t1 with sq:=sq1} W∧Fr R1 wc W)) (by first|exact HSQ|(rw [show ((t1.sq:Int)+1)=((sq1:Nat):Int) by omega];exact HSQ)) ?_
     clear HSQ c4 o4 ek
     intro W4 HSQ
     have HR4:=Lib.hid (HR2.out.tell HSQ.out.1 (fun _=> .inl) HSQ.out.2)
     replace HBX:=Lib.hid (And.intro (HBX.out.1.fr HSQ.out.2 HBX.out.2.1) HBX.out.2)
     clear HR2 HSQ k0
     have k0:=(XI.at HBX.out.1.cells).1
     obtain ⟨dk,hdk⟩:∃dk,drainsM x.kind=dk:=⟨_,rfl⟩
     have HD:Hid (∀W,Calls prog 44 #[.int .i64 x.kind] W fun e w'=>e= .returned (.bool dk)∧W=w'):=Lib.hid fun W=>hdk ▸ drains_any x.kind W
     cases dk
     ·clear i0 hi0 hz0 hz1 hz2
      go_upto_region 7 with (go_at_call 44;(with_reducible refine (HD.out _).mono ?_);rintro e9 w9 ⟨rfl,rfl⟩)
      clear HD k0
      go_cut [66] from 60 to 66 (fun s66 wx=>Hid (∃R2,SpRun br bi bs code window script R2 K (tellM x q1.s {t1 with sq:=sq1}) wx∧(∀k,R2 k→R1 k∨W4.heap.size≤k)∧Fr R1 W4 wx))
      case first=>
       rename_i J K' hJ hK
       have hnb:¬R1 bp:=fun hr=>HR4.out.both.dis _ hr HR4.out.both.path.own
       refine wp_region_made [(0, .pointer (some ⟨br,0,none⟩)),(1, .pointer (some ⟨bp,0,none⟩)),(4, .pointer (some ⟨bx,0,none⟩))]
        [some (.pointer (some ⟨br,0,none⟩)),some x.agg,some (.pointer (some ⟨bp,0,none⟩)),some (.pointer (some ⟨bp,0,none⟩)),some (.pointer (some ⟨bp,1,none⟩)),some (.agg q1.s.cells.toArray),none]
        (fun h W=>TeS W4 br bi bs code window script R1 K (tellM x q1.s {t1 with sq:=sq1}) (h 6) W) (by kernel_rfl) (by kernel_rfl) (by kernel_rfl) (by kernel_rfl) ⟨rfl,rfl,rfl,trivial⟩ ⟨(Fr.refl R1 W4).drew,fun _=>(Fr.refl No W4).drew,fun hc=>absurd rfl hc⟩ ?_ ?_ ?_
       ·intro k o c ho hc h A' W' hS hpre hb
        match k,ho,hc,hpre with
        |0,ho,hc,hpre=>cases ho;cases hc;exact do_move (base_val hb 0 (by simp))
        |1,ho,hc,hpre=>cases ho;cases hc;exact do_load (base_val hb 4 (by simp)) (run_loadAt_mid W' bx 0 _ _ _ (HBX.out.1.fr hS.fr HBX.out.2.1).cells underlying48 rfl (XI.info x))
        |2,ho,hc,hpre=>cases ho;cases hc;exact do_move (base_val hb 1 (by simp))
        |3,ho,hc,hpre=>cases ho;cases hc;exact do_nil (pre_val hpre 2 62 (by kernel_rfl) rfl rfl)
        |4,ho,hc,hpre=>
         cases ho;cases hc
         have e:=pre_val hpre 3 63 (by kernel_rfl) rfl rfl
         show (execOp A'.eval ⟨some 64, .fieldAddr 74 (.tmp 63) 1,_,_,_,_⟩).run prog W'=_
         simp only [execOp,e]
         first|kernel_rfl|simp [go_sem]
        |5,ho,hc,hpre=>cases ho;cases hc;exact do_load (pre_val hpre 4 64 (by kernel_rfl) rfl rfl) (run_loadAt_mid W' bp 1 _ _ _ (hS.fr.cells HR4.out.both.path.cellsS hnb) underlying68 rfl (ST.info HR4.out.both.path.ok))
        |6,ho,hc,hpre=>cases hc
        |n+7,ho,hc,hpre=>cases hc
       ·intro k o ho hc h A' W' hdf hi hS hpre hb
        match k,ho,hc,hi,hpre with
        |6,ho,hc,hi,hpre=>
         cases ho
         have hno:=hS.no hi
         have e1:A'.eval (.tmp 60)= .pointer (some ⟨br,0,none⟩):=pre_val2 hpre 0 60 (by kernel_rfl) rfl rfl
         have e2:A'.eval (.tmp 61)=x.agg:=pre_val2 hpre 1 61 (by kernel_rfl) rfl rfl
         have e3:A'.eval (.tmp 65)= .agg q1.s.cells.toArray:=pre_val2 hpre 5 65 (by kernel_rfl) rfl rfl
         have hb4:=HR4.out.both.no hno
         refine do_call (f:=17) (args:= #[.pointer (some ⟨br,0,none⟩),x.agg, .agg q1.s.cells.toArray]) ?_ ((tell_any hb4.run HM.out hb4.path.wm.fr (fun k hk=>(hb4.out k hk).1) x q1.s HXO.out.1 hb4.path.ok (by show t1.tr.length+2≤1000000;have:=HBB.out.2.1;omega)).mono fun e w' hh=> ?_)
         ·show (execOp A'.eval ⟨some 66, .call {callee:= .value (.func 17),args:= #[.tmp 60, .tmp 61, .tmp 65],argTypes:=_},_,_,_,_⟩).run prog W'=_
          simp [execOp,resolve,invoke,e1,e2,e3,go_sem]
          exact ⟨by rw [←Array.getD_eq_getD_getElem?];exact e1,by rw [←Array.getD_eq_getD_getElem?];exact e2,by rw [←Array.getD_eq_getD_getElem?];exact e3⟩
         ·obtain ⟨rfl,R2,h1,h2,h3⟩:=hh
          refine ⟨_,rfl,_,rfl,?_⟩
          show TeS W4 br bi bs code window script R1 K _ (some _) w'
          exact ⟨hno.any.trans h3.out,fun hc=>(by cases hc),fun _=>⟨R2,h1.out,fun k hk=>(h2.out k hk).imp id fun h=>Nat.le_trans hno.size h⟩⟩
        |0,ho,hc,hi,hpre=>cases hc
        |1,ho,hc,hi,hpre=>cases hc
        |2,ho,hc,hi,hpre=>cases hc
        |3,ho,hc,hi,hpre=>cases hc
        |4,ho,hc,hi,hpre=>cases hc
        |5,ho,hc,hi,hpre=>cases hc
        |n+7,ho,hc,hi,hpre=>cases ho
       ·intro h V' W' hV hS
        have e6:h 6=some (V' 6):=hV 6 (by decide)
        obtain ⟨R2,h1,h2⟩:=hS.told (by rw [e6];simp)
        exact hK _ _ (Met.intro (hJ _ _ ⟨V' 0,V' 1,V' 2,V' 3,V' 4,V' 5,V' 6,Lib.hid ⟨R2,h1,h2,hS.fr⟩,by kernel_rfl⟩))
      case rest=>
       obtain ⟨R2,h1,h2,h3⟩:=hcut.out
       have HR5:=Lib.hid (HR4.out.tell h1 h2 h3)
       replace HBX:Hid (XB wc bx x∧¬R2 bx∧¬P1 bx∧N≤bx):=Lib.hid ⟨HBX.out.1.fr h3 HBX.out.2.1,fun hr=>(h2 bx hr).elim HBX.out.2.1 fun h=>by have:=HBX.out.1.lt;omega,HBX.out.2.2⟩
       have HTL:Hid ((tellM x q1.s {t1 with sq:=sq1}).tr.length≤t1.tr.length+2∧(tellM x q1.s {t1 with sq:=sq1}).sq=sq1):=Lib.hid (tell_len x q1.s {t1 with sq:=sq1})
       clear hcut h1 h2 h3 HR4
       generalize htm:tellM x q1.s {t1 with sq:=sq1}=t2 at*
       obtain ⟨jj,hjj⟩:∃jj,jccM x t2=jj:=⟨_,rfl⟩
       have HJJ:=Lib.hid hjj
       have HJL:Hid (jj.2.tr=t2.tr∧jj.2.sq=t2.sq):=Lib.hid (hjj ▸ jcc_tr x t2)
       have HT2:Hid (tellM x q1.s {t1 with sq:=t1.sq+1}=t2):=by rw [hsq1];exact Lib.hid htm
       clear htm
       go_upto_region 8 with fail
       go_cut [77] from 67 to 77 (fun s77 wx=>s77= .bool jj.1∧Hid (GR w0 N bw mb ds pk RL bp br bi bs code window script R K P w R2 P1 q1 jj.2 wx∧XB wx bx x))
       case first=>
        have k0:=(XI.at HBX.out.1.cells).1
        obtain ⟨kj,hkj⟩:∃kj,(x.kind==(16:Int))=kj:=⟨_,rfl⟩
        cases kj
        ·have hne:x.kind≠16:=by rw [beq_eq_false_iff_ne] at hkj;exact hkj
         have HJ2:Hid (jj=(false,t2)):=Lib.hid (HJJ.out.symm.trans (jcc_no hne))
         clear hne hjj
         go_wp2_with fail
         go_meet
         rw [HJ2.out]
         exact ⟨rfl,Lib.hid ⟨HR5.out,HBX.out.1⟩⟩
        ·have heq:x.kind=16:=eq_of_beq hkj
         have HJ2:Hid (jj=(decide ((itemM t2).1≠0),(itemM t2).2)):=Lib.hid (HJJ.out.symm.trans (jcc_yes heq))
         have HIT:=Lib.hid (item_any HR5.out.both.run)
         have hc2:=HR5.out.both.run.c2
         obtain ⟨kz,hkz⟩:∃kz,(((itemM t2).1:Int) !=(0:Int))=kz:=⟨_,rfl⟩
         have HKZ:Hid (kz=decide ((itemM t2).1≠0)):=Lib.hid (by
          rw [←hkz,Bool.eq_iff_iff,bne_iff_ne,decide_eq_true_iff]
          exact ⟨fun h c=>h (by omega),fun h c=>h (by omega)⟩)
         clear heq hjj
         go_wp2_with (go_at_call 34;(with_reducible refine HIT.out.mono ?_);rintro e2 w2 ⟨rfl,HS2,hf2⟩)
         go_meet
         rw [HJ2.out]
         exact ⟨by rw [←HKZ.out,←hkz],Lib.hid ⟨HR5.out.ask HS2.out hf2.out,HBX.out.1.fr hf2.out (fun e=>HBX.out.2.1 (e ▸ HR5.out.both.run.own.2.1))⟩⟩
       case rest=>
        obtain ⟨rfl,HR6⟩:=hcut
        have HRX:=Lib.hid HR6.out.1
        replace HBX:=Lib.hid (And.intro HR6.out.2 HBX.out.2)
        clear HR5 HR6 hjj
        obtain ⟨jb,t3⟩:=jj
        simp only at HRX HJL
        cases jb
        ·have HBN:=Lib.hid (back_any HRX.out.both.run HRX.out.both.path HRX.out.both.dis (by have:=HBB.out.1;omega) x HXO.out.1)
         obtain ⟨bk,hbk⟩:∃bk,backM x q1 t3=bk:=⟨_,rfl⟩
         have HBK:=Lib.hid hbk
         have HBT:Hid (bk.2.tr=t3.tr∧bk.2.sq=t3.sq):=Lib.hid (hbk ▸ back_tr x q1 t3)
         have HBL:Hid (bk.1≤q1.waits.length∧(0<bk.1→x.kind=13)):=Lib.hid ⟨hbk ▸ back_le,fun h=>back_kind (t:=t3) (p:=q1) (by rw [hbk];exact h)⟩
         rw [hbk] at HBN
         clear hbk
         obtain ⟨bn,t4⟩:=bk
         simp only at HBT HBL HBN
         go_upto_region 11 with (first
          |(refine HBX.out.1.load rfl (.tmp 4) rfl rfl ?_)
          |(go_at_call 40;(with_reducible refine HBN.out.mono ?_);rintro e7 w7 ⟨rfl,HS7,hf7⟩))
         have HR7:=Lib.hid (HRX.out.ask HS7.out hf7.out)
         replace HBX:=Lib.hid (And.intro (HBX.out.1.fr hf7.out (fun e=>HBX.out.2.1 (e ▸ HRX.out.both.run.own.2.1))) HBX.out.2)
         clear HRX HBN HS7 hf7
         by_cases h0:0<bn
         ·have z1:(0:Int)<(bn:Int):=by omega
          have HST:=Lib.hid (stale_any HR7.out.both.path HM.out x next bn HXO.out.1 HXO.out.2.1 (HBL.out.2 h0) HXO.out.2.2 (by have:=HBB.out.1;omega) HBL.out.1)
          have HGS:=Lib.hid ((goM_stale HF.out hdk (by rw [HT2.out];exact HJJ.out) HBK.out h0).symm.trans HGO.out)
          simp only at HGS
          have HSN:Hid (∀(W:World) (t:TypeId),SAt (W.alloc (.cells ST.zero.cells.toArray t)) W.heap.size ST.zero∧Fr No W (W.alloc (.cells ST.zero.cells.toArray t))):=Lib.hid fun W t=>⟨SAt.new W ST.zero_ok t,fr_alloc _ _⟩
          generalize staleM q1 x next bn=so at*
          cases so with
          |none=>
           simp only [staV] at HST
           simp only at HGS
           go_upto_region 13 with (first
            |(refine HBX.out.1.load rfl (.tmp 4) rfl rfl ?_)
            |(go_at_call 41;(with_reducible refine HST.out.mono ?_);rintro e8 w8 ⟨rfl,hf8,_⟩)
            |(refine (HSN.out _ _).1.store ST.zero_ok rfl (.tmp 8) (.tmp 101) rfl rfl rfl ?_;intro W9 h9 hf9))
           have HF9:Hid (Fr No w7 W9):=Lib.hid (hf8.out.trans (((HSN.out w8 68).2.any.trans (hf9.mono fun k _ hk=>by show w8.heap.size≤k;omega):Fr (From w8) w8 W9).ours))
           go_wp2_with fail
           first|go_end0|refine bodyPost_ret (results_none rfl _ _ _) rfl ?_
           have:=(HR7.out.no HF9.out).end_
           rw [HGS.out] at this
           exact ⟨rfl,R2,this⟩
          |some s=>
           simp only [staV] at HST
           simp only at HGS
           go_upto_region 13 with (first
            |(refine HBX.out.1.load rfl (.tmp 4) rfl rfl ?_)
            |(go_at_call 41;(with_reducible refine HST.out.mono ?_);rintro e8 w8 ⟨rfl,hf8,hso⟩;replace hso:=Lib.hid (hso s rfl))
            |(refine (HSN.out _ _).1.store hso.out rfl (.tmp 8) (.tmp 101) rfl rfl rfl ?_;intro W9 h9 hf9))
           have HF9:Hid (Fr No w7 W9):=Lib.hid (hf8.out.trans (((HSN.out w8 68).2.any.trans (hf9.mono fun k _ hk=>by show w8.heap.size≤k;omega):Fr (From w8) w8 W9).ours))
           have HR9:=Lib.hid (HR7.out.no HF9.out)
           have H9:=Lib.hid h9
           have HPE:=Lib.hid HR9.out.both.path
           clear HR7 hf8 hf9 HF9 HSN HST h9
           obtain ⟨b1,b2,b3,hn⟩:=HBB.out
           obtain ⟨l1,l2⟩:=HTL.out
           obtain ⟨l3,l4⟩:=HJL.out
           obtain ⟨l5,l6⟩:=HBT.out
           go_wp2_with (first
            |(refine H9.out.load rfl (.tmp 8) rfl rfl ?_)
            |(refine HPE.out.storeS hso.out rfl (.tmp 108) (.tmp 106) rfl rfl rfl ?_;intro W10 h10 hf10))
           go_roundw
           case rel=>
            refine ⟨k+1,by omega,by go_num,?_⟩
            rw [show window-(k+1)=n by omega]
            exact Lib.hid ⟨R2,P1,_,t4,HR9.out.set h10 hf10,HGS.out,by show q1.waits.length+n≤900000;omega,by rw [l5,l3];omega,by rw [l6,l4,l2];omega⟩
           case measure=>simp [intOf]<;>omega
         ·have z1:¬(0:Int)<(bn:Int):=by omega
          have HPS:=Lib.hid (pstep_any HR7.out.both.path HM.out x next HXO.out.1 HXO.out.2.2 (by have:=HBB.out.1;omega) HXO.out.2.1 (HKK.out _ _ _ HF.out))
          obtain ⟨sq,hsq⟩:∃sq,stepP ds q1 x next=sq:=⟨_,rfl⟩
          have HGS:=Lib.hid ((goM_step HF.out hdk (by rw [HT2.out];exact HJJ.out) HBK.out h0 hsq).symm.trans HGO.out)
          have HSW:Hid (sq.2.waits.length≤q1.waits.length+1):=Lib.hid (hsq ▸ step_waits)
          rw [hsq] at HPS
          clear hsq
          obtain ⟨se,q2⟩:=sq
          simp only at HGS HSW HPS
          by_cases he:se=0
          ·subst he
           have HGS2:Hid (goM ds code n q2 t4=G):=Lib.hid (by have:=HGS.out;rwa [if_neg (by decide)] at this)
           obtain ⟨b1,b2,b3,hn⟩:=HBB.out
           obtain ⟨l1,l2⟩:=HTL.out
           obtain ⟨l3,l4⟩:=HJL.out
           obtain ⟨l5,l6⟩:=HBT.out
           have hsw:=HSW.out
           clear HGS
           go_wp2_with (first
            |(refine HBX.out.1.load rfl (.tmp 4) rfl rfl ?_)
            |(go_at_call 19;(with_reducible refine HPS.out.mono ?_);rintro e8 w8 ⟨rfl,P2,hp8,hs8,hf8⟩))
           go_roundw
           case rel=>
            refine ⟨k+1,by omega,by go_num,?_⟩
            rw [show window-(k+1)=n by omega]
            exact Lib.hid ⟨R2,P2,q2,t4,HR7.out.step hp8.out hs8.out hf8.out,HGS2.out,by omega,by rw [l5,l3];omega,by rw [l6,l4,l2];omega⟩
           case measure=>simp [intOf]<;>omega
          ·have z2:(se !=(0:Int))=true:=by rw [bne_iff_ne];exact he
           have HGS2:Hid (t4=G):=Lib.hid (by have:=HGS.out;rwa [if_pos he] at this)
           clear HGS
           go_wp2_with (first
            |(refine HBX.out.1.load rfl (.tmp 4) rfl rfl ?_)
            |(go_at_call 19;(with_reducible refine HPS.out.mono ?_);rintro e8 w8 ⟨rfl,P2,hp8,hs8,hf8⟩))
           first|go_end0|refine bodyPost_ret (results_none rfl _ _ _) rfl ?_
           have:=(HR7.out.step hp8.out hs8.out hf8.out).end_
           rw [HGS2.out] at this
           exact ⟨rfl,R2,this⟩
        ·have HGJ:Hid (goM ds code n {q1 with s:={q1.s with pc:=otherM x next q1.s}} t3=G):=Lib.hid ((goM_jump HF.out hdk (by rw [HT2.out];exact HJJ.out)).symm.trans HGO.out)
         have HOC:Hid (∀W,Calls prog 37 #[x.agg, .int .u64 next, .agg q1.s.cells.toArray] W fun e w'=>e= .returned (.int .u64 (otherM x next q1.s))∧Fr No W w'):=Lib.hid fun W=>other_any x next q1.s W HRX.out.both.path.ok HXO.out.1 HXO.out.2.2
         have HOL:=Lib.hid (other_lt x q1.s HXO.out.2.2)
         generalize otherM x next q1.s=o at*
         go_upto_region 9 with fail
         go_cut [85] from 78 to 88 (fun s85 wx=>Hid (PathAt w0 N bw mb ds pk RL bp P1 {q1 with s:={q1.s with pc:=o}} wx∧Fr (fun k=>k=bp) wc wx))
         case first=>
          rename_i J K' hJ hK
          have hnx:¬bx=bp:=fun e=>HBX.out.2.2.1 (e ▸ HRX.out.both.path.own)
          refine wp_region_made [(1, .pointer (some ⟨bp,0,none⟩)),(4, .pointer (some ⟨bx,0,none⟩)),(5, .int .u64 next)]
           [some (.pointer (some ⟨bp,0,none⟩)),some x.agg,some (.int .u64 next),some (.pointer (some ⟨bp,0,none⟩)),some (.pointer (some ⟨bp,0,none⟩)),some (.pointer (some ⟨bp,1,none⟩)),none,none,some (.pointer (some ⟨bp,0,none⟩)),some (.pointer (some ⟨bp,1,none⟩)),some (.pointer (some ⟨bp,21,none⟩)),none]
           (fun h W=>OtS w0 N bw mb ds pk RL bp P1 q1 o wc (h 6) (h 7) (h 11) W) (by kernel_rfl) (by kernel_rfl) (by kernel_rfl) (by kernel_rfl) ⟨rfl,rfl,rfl,trivial⟩ ⟨(Fr.refl _ wc).drew,fun _=>HRX.out.both.path.no (Fr.refl No wc).drew,fun hc=>absurd rfl hc,(fun v hv=>by cases hv),(fun v hv=>by cases hv),fun _=>rfl,fun _=>rfl⟩ ?_ ?_ ?_
          ·intro k o2 c ho hc h A' W' hS hpre hb
           match k,ho,hc,hpre with
           |0,ho,hc,hpre=>cases ho;cases hc;exact do_move (base_val hb 1 (by simp))
           |1,ho,hc,hpre=>cases ho;cases hc;exact do_load (base_val hb 4 (by simp)) (run_loadAt_mid W' bx 0 _ _ _ (HBX.out.1.fr hS.fr hnx).cells underlying48 rfl (XI.info x))
           |2,ho,hc,hpre=>cases ho;cases hc;exact do_move (base_val hb 5 (by simp))
           |3,ho,hc,hpre=>cases ho;cases hc;exact do_move (base_val hb 1 (by simp))
           |4,ho,hc,hpre=>cases ho;cases hc;exact do_nil (pre_val hpre 3 81 (by kernel_rfl) rfl rfl)
           |5,ho,hc,hpre=>
            cases ho;cases hc
            have e:=pre_val hpre 4 82 (by kernel_rfl) rfl rfl
            show (execOp A'.eval ⟨some 83, .fieldAddr 74 (.tmp 82) 1,_,_,_,_⟩).run prog W'=_
            simp only [execOp,e]
            first|kernel_rfl|simp [go_sem]
           |6,ho,hc,hpre=>cases hc
           |7,ho,hc,hpre=>cases hc
           |8,ho,hc,hpre=>cases ho;cases hc;exact do_nil (pre_val hpre 0 78 (by kernel_rfl) rfl rfl)
           |9,ho,hc,hpre=>
            cases ho;cases hc
            have e:=pre_val hpre 8 86 (by kernel_rfl) rfl rfl
            show (execOp A'.eval ⟨some 87, .fieldAddr 74 (.tmp 86) 1,_,_,_,_⟩).run prog W'=_
            simp only [execOp,e]
            first|kernel_rfl|simp [go_sem]
           |10,ho,hc,hpre=>
            cases ho;cases hc
            have e:=pre_val hpre 9 87 (by kernel_rfl) rfl rfl
            show (execOp A'.eval ⟨some 88, .fieldAddr 68 (.tmp 87) 5,_,_,_,_⟩).run prog W'=_
            simp only [execOp,e]
            first|kernel_rfl|simp [go_sem]
           |11,ho,hc,hpre=>cases hc
           |n+12,ho,hc,hpre=>cases hc
          ·intro k o2 ho hc h A' W' hdf hi hS hpre hb
           match k,ho,hc,hi,hpre with
           |6,ho,hc,hi,hpre=>
            cases ho
            have hp:=hS.no (hS.dep.2 (hS.dep.1 hi))
            refine do_val (do_load (pre_val2 hpre 5 83 (by kernel_rfl) rfl rfl) (run_loadAt_mid W' bp 1 _ _ _ hp.cellsS underlying68 rfl (ST.info hp.ok))) ⟨_,rfl,?_⟩
            show OtS w0 N bw mb ds pk RL bp P1 q1 o wc (some _) (h 7) (h 11) W'
            exact ⟨hS.fr,hS.no,hS.yes,fun v hv=>(Option.some.inj hv).symm,hS.v7,fun hc=>(by cases hc),hS.dep.2⟩
           |7,ho,hc,hi,hpre=>
            cases ho
            obtain ⟨v,h1,h2⟩:=pre_made hpre 6 84 (by kernel_rfl) rfl rfl
            obtain rfl:=hS.v6 v h1
            have e1:A'.eval (.tmp 79)=x.agg:=pre_val2 hpre 1 79 (by kernel_rfl) rfl rfl
            have e2:A'.eval (.tmp 80)= .int .u64 next:=pre_val2 hpre 2 80 (by kernel_rfl) rfl rfl
            have e3:A'.eval (.tmp 84)= .agg q1.s.cells.toArray:=h2
            have h11:=hS.dep.2 hi
            refine do_call (f:=37) (args:= #[x.agg, .int .u64 next, .agg q1.s.cells.toArray]) ?_ ((HOC.out W').mono fun e w' hh=> ?_)
            ·show (execOp A'.eval ⟨some 85, .call {callee:= .value (.func 37),args:= #[.tmp 79, .tmp 80, .tmp 84],argTypes:=_},_,_,_,_⟩).run prog W'=_
             simp [execOp,resolve,invoke,e1,e2,e3,go_sem]
             exact ⟨by rw [←Array.getD_eq_getD_getElem?];exact e1,by rw [←Array.getD_eq_getD_getElem?];exact e2,by rw [←Array.getD_eq_getD_getElem?];exact e3⟩
            ·obtain ⟨rfl,hff⟩:=hh
             refine ⟨_,rfl,_,rfl,?_⟩
             show OtS w0 N bw mb ds pk RL bp P1 q1 o wc (h 6) (some (.int .u64 o)) (h 11) w'
             exact ⟨hS.fr.trans hff.any,fun h=>(hS.no h).no hff,fun h=>(hS.yes h).no hff,hS.v6,fun v hv=>(Option.some.inj hv).symm,fun hc=>absurd (hc.symm.trans h1) (by simp),fun hc=>(by cases hc)⟩
           |11,ho,hc,hi,hpre=>
            cases ho
            obtain ⟨v,h1,h2⟩:=pre_made hpre 7 85 (by kernel_rfl) rfl rfl
            obtain rfl:=hS.v7 v h1
            have hp:=hS.no hi
            refine do_storeU (pre_val2 hpre 10 88 (by kernel_rfl) rfl rfl) h2 hp.pc (hp.open_ 21) ⟨undef,rfl,?_⟩
            show OtS w0 N bw mb ds pk RL bp P1 q1 o wc (h 6) (h 7) (some undef) _
            exact ⟨hS.fr.setCell (p:=⟨bp,21,none⟩) (.inr rfl) _,fun hc=>(by cases hc),fun _=>hp.setPC HOL.out,hS.v6,hS.v7,hS.dep.1,fun hc=>absurd (hc.symm.trans h1) (by simp)⟩
           |0,ho,hc,hi,hpre=>cases hc
           |1,ho,hc,hi,hpre=>cases hc
           |2,ho,hc,hi,hpre=>cases hc
           |3,ho,hc,hi,hpre=>cases hc
           |4,ho,hc,hi,hpre=>cases hc
           |5,ho,hc,hi,hpre=>cases hc
           |8,ho,hc,hi,hpre=>cases hc
           |9,ho,hc,hi,hpre=>cases hc
           |10,ho,hc,hi,hpre=>cases hc
           |n+12,ho,hc,hi,hpre=>cases ho
          ·intro h V' W' hV hS
           have e11:h 11=some (V' 11):=hV 11 (by decide)
           exact hK _ _ (Met.intro (hJ _ _ ⟨V' 0,V' 1,V' 2,V' 3,V' 4,V' 5,V' 6,V' 7,V' 8,V' 9,V' 10,Lib.hid ⟨hS.yes (by rw [e11];simp),hS.fr⟩,by kernel_rfl⟩))
         case rest=>
          have HRN:=Lib.hid (HRX.out.set hcut.out.1 hcut.out.2)
          obtain ⟨b1,b2,b3,hn⟩:=HBB.out
          obtain ⟨l1,l2⟩:=HTL.out
          obtain ⟨l3,l4⟩:=HJL.out
          clear hcut HRX HOC
          go_wp2_with fail
          go_roundw
          case rel=>
           refine ⟨k+1,by omega,by go_num,?_⟩
           rw [show window-(k+1)=n by omega]
           exact Lib.hid ⟨R2,P1,_,t3,HRN.out,HGJ.out,by show q1.waits.length+n≤900000;omega,by rw [l3];omega,by rw [l4,l2];omega⟩
          case measure=>simp [intOf]<;>omega
     ·have HGD:Hid ({t1 with sq:=sq1,tr:=t1.tr++ [q1.s.pc]}=G):=by rw [←hsq1];exact Lib.hid ((goM_drain HF.out hdk).symm.trans HGO.out)
      go_upto_region 6 with (go_at_call 44;(with_reducible refine (HD.out _).mono ?_);rintro e9 w9 ⟨rfl,rfl⟩)
      have HS4:=Lib.hid HR4.out.both.run
      have cpc:=HR4.out.both.path.pc
      obtain ⟨tv,d1,d2,d3⟩:=HS4.out.row
      obtain ⟨ta,tc,rfl⟩:=ownsRow_form d2
      simp only at d1 d2 d3
      have HOWN:Hid (∀W,Fr No W4 W→W.ownsRow 0 37 1 (.slice ta t1.tr.length tc) t1.tr.length (u64L t1.tr)):=fun W hW=>ownsRow_fr d2 hW (fun _ _=>id)
      have HQ5:Hid (∀(W w5:World),Fr No W4 W→W.grownBy w5 (Value.slice ta t1.tr.length tc).ownBlock→w5.cell? ⟨br,3,none⟩=some (.slice ta t1.tr.length tc)∧w5.frozen? ⟨br,3,none⟩=false):=fun W w5 f hg=>by
       have hnb:¬OwnOf (.slice ta t1.tr.length tc) br:=fun hb=>(d3 br hb).2.1 rfl
       have c3:=f.cell d1 id
       exact ⟨(grown_fr hg).cell c3 hnb,by rw [(grown_fr hg).frozen c3 hnb,f.frozen d1 id];exact HS4.out.open_ 3⟩
      have HST:Hid (∀(W w7:World) (g cap:Nat),Fr No W4 W→W.heap.size=W4.heap.size+1→w7.ownsRow 0 37 1 (.slice (some ⟨g,0,none⟩) (t1.tr.length+1) cap) (t1.tr.length+1) (u64L t1.tr++ [.int .u64 (q1.s.pc:Int)])→W.grownBy w7 (Value.slice ta t1.tr.length tc).ownBlock→((Value.slice ta t1.tr.length tc).ownBlock=some g∨g=W4.heap.size+1)→g<w7.heap.size→
        SpRun br bi bs code window script (fun k=>R1 k∨k=g) K {t1 with sq:=sq1,tr:=t1.tr++ [q1.s.pc]} (w7.setCell ⟨br,3,none⟩ (.slice (some ⟨g,0,none⟩) (t1.tr.length+1) cap))∧Fr R1 W4 (w7.setCell ⟨br,3,none⟩ (.slice (some ⟨g,0,none⟩) (t1.tr.length+1) cap))∧∀k,(R1 k∨k=g)→R1 k∨W4.heap.size≤k):=fun W w7 g cap f z h1 h2 h3 h4=>by
       have q:=(HS4.out.no f).told (f.cell d1 id) h1 h2 (by rw [z];exact h3) h4
       exact ⟨q.1,f.any.trans q.2.1,fun k hk=>(q.2.2 k hk).imp id fun y=>Nat.le_trans f.size y.1⟩
      have t1a:=fun o:Obj=>((Fr.refl No W4).alloc o).cell d1 id
      have t1p:=fun o:Obj=>((Fr.refl No W4).alloc o).cell cpc id
      clear d2 d3
      have hlen:t1.tr.length≤900000:=by have:=HBB.out.2.1;omega
      clear HD k0 HGO HF hdk
      go_region_law (first
       |(refine guard_append (.tmp 49) (.tmp 55) 33 ?_ ?_;rfl;refine step_append_lies _ (by rfl) (.tmp 49) (.tmp 55) 33 (by rfl) 0 37 i0 _ 1 8 underlying33 hi0 hz0 hz1 hz2 rfl (by decide) (.slice ta t1.tr.length tc) t1.tr.length (u64L t1.tr) (by rfl) (by exact HOWN.out _ (by first|exact ((Fr.refl No W4).alloc _).drew|exact (Fr.refl No W4).drew.alloc _)) ⟨W4.heap.size,0,none⟩ 1 1 [.int .u64 (q1.s.pc:Int)] (by rfl) (by rfl) (by exact World.news_of_block (cs:= #[.int .u64 (q1.s.pc:Int)]) (t:=37) (fr:=(0,0)) (by first|exact heap_alloc_new _ _|(simp;done))) (by simp [Value.oneCell']) (by omega) (by unfold maxLen;omega) (by omega) (Nat.zero_le _) (W4.heap.size+1) (by simp) ?_;intro g2 cap2 w7 hown hgrow hat hlt2;have q5:=HQ5.out _ w7 (by first|exact ((Fr.refl No W4).alloc _).drew|exact (Fr.refl No W4).drew.alloc _) hgrow;have HE:=Lib.hid (HST.out _ w7 g2 cap2 (by first|exact ((Fr.refl No W4).alloc _).drew|exact (Fr.refl No W4).drew.alloc _) (by simp) hown hgrow hat hlt2);clear hown hgrow hat hlt2;obtain ⟨q5,q6⟩:=q5))
      all_goals
       clear d1 t1a t1p cpc HOWN HQ5 HST q5 q6
       go_wp2_with fail
       first|go_end0|refine bodyPost_ret (results_none rfl _ _ _) rfl ?_
       have:=(HR4.out.tell HE.out.1 HE.out.2.2 HE.out.2.1).end_
       rw [←HGD.out]
       exact ⟨rfl,_,this⟩
  ·obtain rfl:k=window:=by omega
   rw [Nat.sub_self] at HGO
   have HGO2:Hid (t1=G):=HGO.out
   clear HGO b1 b2 b3
   go_wp2_with fail
   first|go_end0|refine bodyPost_ret (results_none rfl _ _ _) rfl ?_
   have:=HR.out.end_
   rw [HGO2.out] at this
   exact ⟨rfl,R1,this⟩
end Go.Proofs.YtfmcmfiebehhiaaGreatDoor

