/- package spec: wrong. package spec: items; what Run has. -/
import Derived.Test.YtfmcmfiebehhiaaGreatDoorCore39
set_option linter.all false
set_option linter.unusedVariables false
set_option linter.unusedSimpArgs false
set_option maxRecDepth 100000
set_option maxHeartbeats 8000000
namespace Go.Proofs.YtfmcmfiebehhiaaGreatDoor
open Go.Proofs.Tryz
open Go.RowKit
section
variable {w0 w wr w1 w2 w':World} {N N2 bw mb bw2 mb2 pk bp bp2 br bi bs window n m lo2:Nat} {ds:List MapD} {RL RL2:RQ} {code script:List UInt8} {R R' R2 K P P' P2:Nat→Prop} {q q2:PM} {t t2:TM}
theorem Both.branched(h:Both w0 N bw mb ds pk RL bp br bi bs code window script R K P q t w)(hq0:∀k,¬RL.q k)(hp:PathAt w0 N2 bw2 mb2 ds pk ⟨RL.L,fun k=>N≤k∧k<lo2,lo2⟩ bp2 P2 q2 w1)(hP:∀k,P2 k→w.heap.size≤k)(hlo:w.heap.size≤lo2)(hf:Fr No w w1):Both w0 N2 bw2 mb2 ds pk ⟨RL.L,fun k=>N≤k∧k<lo2,lo2⟩ bp2 br bi bs code window script R K P2 q2 t w1:=by
 refine ⟨h.run.no hf,hp,fun k hk hp2=> ?_,fun k hk=>⟨(h.out k hk).1, .inr ⟨(h.out k hk).2.resolve_right (hq0 k),?_⟩⟩,fun k hk=>⟨fun hp2=> ?_,fun hz=> ?_⟩⟩
 ·have:=hP k hp2;have:=h.run.rlt k hk;omega
 ·have:=h.run.rlt k hk;omega
 ·have:=hP k hp2;have:=h.run.klt k hk;omega
 ·have h1:lo2≤k:=hz.2.1
  have:=h.run.klt k hk;omega
theorem branched_fr(hf:Fr No w w1)(hg:Fr (fun k=>R k∨P2 k∨Zof w0 N2 ⟨RL.L,fun k=>N≤k∧k<lo2,lo2⟩ k) w1 w2)(hP:∀k,P2 k→w.heap.size≤k)(hlo:w.heap.size≤lo2):Fr R w w2:=by
 have h1:Fr (fun k=>R k∨P2 k∨Zof w0 N2 ⟨RL.L,fun k=>N≤k∧k<lo2,lo2⟩ k) w w2:=hf.any.trans hg
 refine h1.mono fun k hk hh=>hh.elim id fun hh=>hh.elim (fun h=> ?_) fun h=> ?_
 ·have:=hP k h;omega
 ·have h1:lo2≤k:=h.2.1
  omega
structure WR(w0:World)(N bw mb:Nat)(ds:List MapD)(pk:Nat)(RL:RQ)(bp br bi bs:Nat)(code:List UInt8)(window:Nat)(script:List UInt8)(R K P:Nat→Prop)(w:World)(R':Nat→Prop)(q:PM)(t:TM)(wr:World):Prop where
 both:Both w0 N bw mb ds pk RL bp br bi bs code window script R' K P q t wr
 rsub:∀k,R' k→R k∨w.heap.size≤k
 fr:Fr (fun k=>R k∨w.heap.size≤k) w wr
theorem WR.tell(h:WR w0 N bw mb ds pk RL bp br bi bs code window script R K P w R' q t wr)(hr:SpRun br bi bs code window script R2 K t2 w')(hR:∀k,R2 k→R' k∨wr.heap.size≤k)(hf:Fr R' wr w'):WR w0 N bw mb ds pk RL bp br bi bs code window script R K P w R2 q t2 w':=
 ⟨h.both.told hr hR hf,fun k hk=>(hR k hk).elim (h.rsub k) fun hk=> .inr (Nat.le_trans h.fr.size hk),h.fr.trans (hf.mono fun k _ hk=>h.rsub k hk)⟩
theorem WR.ask(h:WR w0 N bw mb ds pk RL bp br bi bs code window script R K P w R' q t wr)(hr:SpRun br bi bs code window script R' K t2 w')(hf:Fr (fun k=>k=bi) wr w'):WR w0 N bw mb ds pk RL bp br bi bs code window script R K P w R' q t2 w':=
 h.tell hr (fun _=> .inl) (hf.mono fun k _ hk=>by rw [hk];exact h.both.run.own.2.1)
theorem WR.no(h:WR w0 N bw mb ds pk RL bp br bi bs code window script R K P w R' q t wr)(hf:Fr No wr w'):WR w0 N bw mb ds pk RL bp br bi bs code window script R K P w R' q t w':=⟨h.both.no hf,h.rsub,h.fr.trans hf.any⟩
theorem WR.fr8{X:Nat→Prop}(h:WR w0 N bw mb ds pk RL bp br bi bs code window script R K P w R' q t wr)(hf:Fr X wr w')(hX:∀k,X k→¬R' k∧Out w0 N RL k∧¬P k)(hw:∀k,X k→¬K k∧w.heap.size≤k):WR w0 N bw mb ds pk RL bp br bi bs code window script R K P w R' q t w':=
 ⟨⟨h.both.run.fr hf fun k hk=>⟨(hX k hk).1,(hw k hk).1⟩,h.both.path.fr hf fun k hk=>(hX k hk).2,h.both.dis,h.both.out,h.both.kout⟩,h.rsub,h.fr.trans (hf.mono fun k _ hk=> .inr (hw k hk).2)⟩
theorem WR.guessed(h:WR w0 N bw mb ds pk RL bp br bi bs code window script R K P w R' q t wr)(hP:∀k,P2 k→wr.heap.size≤k)(hlo:wr.heap.size≤lo2)(hf:Fr No wr w1)(hr:SpRun br bi bs code window script R2 K t2 w2)(hR:∀k,R2 k→R' k∨w1.heap.size≤k)(hg:Fr (fun k=>R' k∨P2 k∨Zof w0 N2 ⟨RL.L,fun k=>N≤k∧k<lo2,lo2⟩ k) w1 w2):WR w0 N bw mb ds pk RL bp br bi bs code window script R K P w R2 q t2 w2:=
 h.tell hr (fun k hk=>(hR k hk).imp id fun h=>Nat.le_trans hf.size h) (branched_fr hf hg hP hlo)
theorem WR.end_(h:WR w0 N bw mb ds pk RL bp br bi bs code window script R K P w R' q t wr):Hid (SpRun br bi bs code window script R' K t wr)∧Hid (∀k,R' k→R k∨w.heap.size≤k)∧Hid (Fr R w wr):=⟨h.both.run,h.rsub,h.fr.mono fun k hk hh=>hh.resolve_right (by omega)⟩
end
def backPart(ds:List MapD)(code:List UInt8)(window:Nat)(p:PM)(x:XI)(next:Nat)(t1:TM):TM:=
 let b:=backM x p t1
 if 0<b.1 then
  match staleM p x next b.1 with
  |none=>b.2
  |some s=>goM ds code window {p with s:=s} b.2
 else b.2
theorem wrong_parts(ds:List MapD)(code:List UInt8)(window:Nat)(p:PM)(x:XI)(next:Nat)(t:TM):wrongM ds code window p x next t=backPart ds code window p x next (if (jccM x t).1 then goM ds code window {p with s:={p.s with pc:=otherM x next p.s}} (jccM x t).2 else (jccM x t).2):=rfl
structure OsS(wc:World)(b:Nat)(s:ST)(o:Nat)(h6 h8:Option Value)(W:World):Prop where
 fr:Fr (fun k=>k=b) wc W
 st:SAt W b (if h8=none then s else {s with pc:=o})
 v6:∀v,h6=some v→v= .int .u64 o
theorem wrong_any{w0 w:World}{N bw mb pk bp br bi bs window:Nat}{ds:List MapD}{RL:RQ}{code script:List UInt8}{R K P:Nat→Prop}{q:PM}{t:TM}(h:Both w0 N bw mb ds pk RL bp br bi bs code window script R K P q t w)(hq0:∀k,¬RL.q k)(hm:MachAt w0)(hw:window≤16)(hlc:code.length≤1000000)(hl:q.waits.length≤700000)(ht:t.tr.length≤700000)(hq:t.sq≤800000000)(x:XI)(next:Nat)(hx:x.ok)(hv:validM x=true)(hn:next<18446744073709551616)(hkk:∀pc x next,fetchM code pc=some (x,next)→okk x.kind=true):
  Calls prog 18 #[.pointer (some ⟨br,0,none⟩), .pointer (some ⟨bp,0,none⟩),x.agg, .int .u64 next] w fun e w'=>e= .returned (.tuple #[])∧∃R',Hid (SpRun br bi bs code window script R' K (wrongM ds code window q x next t) w')∧Hid (∀k,R' k→R k∨w.heap.size≤k)∧Hid (Fr R w w'):=by
 have HB:Hid (∀t1,Fr No w (w.alloc (.cells x.cells.toArray t1))∧XB (w.alloc (.cells x.cells.toArray t1)) w.heap.size x):=fun t1=>⟨fr_alloc _ _,XB.new w _ _⟩
 have HH:=Lib.hid h
 have HM:=Lib.hid hm
 have HQ0:=Lib.hid hq0
 have HKK:=Lib.hid hkk
 clear hkk
 have HB9:=Lib.hid (And.intro hl (And.intro ht (And.intro hq (And.intro hw hlc))))
 have HXO:=Lib.hid (And.intro hx (And.intro hv hn))
 rw [wrong_parts]
 obtain ⟨jj,hjj⟩:∃jj,jccM x t=jj:=⟨_,rfl⟩
 have HJJ:=Lib.hid hjj
 have HJL:Hid (jj.2.tr=t.tr∧jj.2.sq=t.sq):=Lib.hid (hjj ▸ jcc_tr x t)
 rw [hjj]
 clear h hm hq0 hw hlc hl ht hq hx hv hn hjj
 obtain ⟨jb,t3⟩:=jj
 simp only at HJL ⊢
 obtain ⟨t5,ht5⟩:∃t5,(if jb=true then goM ds code window {q with s:={q.s with pc:=otherM x next q.s}} t3 else t3)=t5:=⟨_,rfl⟩
 have HT5:=Lib.hid ht5
 rw [ht5]
 clear ht5
 obtain ⟨G,hG⟩:∃G,backPart ds code window q x next t5=G:=⟨_,rfl⟩
 have HG:=Lib.hid hG
 rw [hG]
 clear hG
 simp only [XI.agg]
 go_enter func18,ntmps18
 go_upto_region 1 with fail
 refine wp_box (fun W1=>Hid (Fr No w W1∧XB W1 w.heap.size x)) (by exact HB.out _) ?_
 clear HB
 intro W1 HL
 have HR1:Hid (WR w0 N bw mb ds pk RL bp br bi bs code window script R K P w R q t W1):=Lib.hid ⟨HH.out.no HL.out.1,fun _=> .inl,HL.out.1.any⟩
 have HBX:Hid (XB W1 w.heap.size x∧¬R w.heap.size):=Lib.hid ⟨HL.out.2,fun hr=>Nat.lt_irrefl _ (HH.out.run.rlt _ hr)⟩
 clear HL HH
 go_cut [22] from 12 to 22 (fun s22 wx=>s22= .bool jb∧Hid (WR w0 N bw mb ds pk RL bp br bi bs code window script R K P w R q t3 wx∧XB wx w.heap.size x))
 case first=>
  have k0:=(XI.at HBX.out.1.cells).1
  obtain ⟨kj,hkj⟩:∃kj,(x.kind==(16:Int))=kj:=⟨_,rfl⟩
  cases kj
  ·have hne:x.kind≠16:=by rw [beq_eq_false_iff_ne] at hkj;exact hkj
   obtain ⟨rfl,rfl⟩:=Prod.mk.inj (HJJ.out.symm.trans (jcc_no hne))
   clear hne
   go_wp2_with fail
   go_meet
   exact ⟨rfl,Lib.hid ⟨HR1.out,HBX.out.1⟩⟩
  ·have heq:x.kind=16:=eq_of_beq hkj
   obtain ⟨ej,et⟩:=Prod.mk.inj (HJJ.out.symm.trans (jcc_yes heq))
   have HEJ:=Lib.hid ej
   have HET:=Lib.hid et
   have HIT:=Lib.hid (item_any HR1.out.both.run)
   have hc2:=HR1.out.both.run.c2
   obtain ⟨kz,hkz⟩:∃kz,(((itemM t).1:Int) !=(0:Int))=kz:=⟨_,rfl⟩
   have HKZ:Hid (kz=decide ((itemM t).1≠0)):=Lib.hid (by
    rw [←hkz,Bool.eq_iff_iff,bne_iff_ne,decide_eq_true_iff]
    exact ⟨fun h c=>h (by omega),fun h c=>h (by omega)⟩)
   clear heq ej et
   go_wp2_with (go_at_call 34;(with_reducible refine HIT.out.mono ?_);rintro e2 w2 ⟨rfl,HS2,hf2⟩)
   go_meet
   rw [HET.out]
   exact ⟨by rw [HEJ.out,←HKZ.out,←hkz],Lib.hid ⟨HR1.out.ask HS2.out hf2.out,HBX.out.1.fr hf2.out (fun e=>HBX.out.2 (e ▸ HR1.out.both.run.own.2.1))⟩⟩
 case rest=>
  obtain ⟨rfl,HR6⟩:=hcut
  have HRX:=Lib.hid HR6.out.1
  replace HBX:=Lib.hid (And.intro HR6.out.2 HBX.out.2)
  clear HR1 HR6 HJJ
  go_upto_if 22 with fail
  have HSN:Hid (∀(W:World) (t:TypeId),SAt (W.alloc (.cells ST.zero.cells.toArray t)) W.heap.size ST.zero∧Fr No W (W.alloc (.cells ST.zero.cells.toArray t))):=Lib.hid fun W t=>⟨SAt.new W ST.zero_ok t,fr_alloc _ _⟩
  have HSO:=Lib.hid HRX.out.both.path.ok
  go_cut [8] from 23 to 39 (fun _ wx=>Hid (∃R2,WR w0 N bw mb ds pk RL bp br bi bs code window script R K P w R2 q t5 wx∧XB wx w.heap.size x∧¬R2 w.heap.size))
  case first=>
   cases jb
   ·have HT:Hid (t3=t5):=HT5.out
    clear HT5 HSN HSO
    go_wp2_with fail
    go_meet
    rw [←HT.out]
    exact Lib.hid ⟨R,HRX.out,HBX.out⟩
   ·have HT:Hid (goM ds code window {q with s:={q.s with pc:=otherM x next q.s}} t3=t5):=HT5.out
    have HOC:Hid (∀W,Calls prog 37 #[x.agg, .int .u64 next, .agg q.s.cells.toArray] W fun e w'=>e= .returned (.int .u64 (otherM x next q.s))∧Fr No W w'):=Lib.hid fun W=>other_any x next q.s W HSO.out HXO.out.1 HXO.out.2.2
    have HOL:=Lib.hid (other_lt x q.s HXO.out.2.2)
    clear HT5
    generalize otherM x next q.s=o at*
    have HPX:=Lib.hid HRX.out.both.path
    go_upto_region 3 with (first
     |(refine HPX.out.loadS rfl (.tmp 25) rfl rfl ?_)
     |(refine (HSN.out _ _).1.store HSO.out rfl (.tmp 8) (.tmp 26) rfl rfl rfl ?_;intro W9 h9 hf9))
    have HF9:Hid (Fr No wc W9):=Lib.hid (((HSN.out wc 68).2.any.trans (hf9.mono fun k _ hk=>by show wc.heap.size≤k;omega):Fr (From wc) wc W9).ours)
    have H9:=Lib.hid h9
    have hb8:w.heap.size<wc.heap.size:=HBX.out.1.lt
    have hb7:bp<wc.heap.size:=HPX.out.lt
    clear hf9 h9
    have HR9:=Lib.hid (HRX.out.no HF9.out)
    replace HBX:=Lib.hid (And.intro (HBX.out.1.fr HF9.out id) HBX.out.2)
    have HNB:Hid ((¬R wc.heap.size∧Out w0 N RL wc.heap.size∧¬P wc.heap.size)∧¬K wc.heap.size∧w.heap.size≤wc.heap.size):=Lib.hid ⟨⟨fun hr=>Nat.lt_irrefl _ (HRX.out.both.run.rlt _ hr),⟨HPX.out.wm.fr.size, .inl HPX.out.wm.bound⟩,fun hp=>Nat.lt_irrefl _ (HPX.out.plt _ hp)⟩,fun hk=>Nat.lt_irrefl _ (HRX.out.both.run.klt _ hk),HRX.out.fr.size⟩
    clear HRX HPX HSN HF9
    generalize wc.heap.size=b8 at*
    try simp only [Act.put]
    go_cut [33] from 27 to 34 (fun _ wx=>Hid (SAt wx b8 {q.s with pc:=o}∧Fr (fun k=>k=b8) W9 wx))
    case first=>
     rename_i J K' hJ hK
     have hnx:¬w.heap.size=b8:=by omega
     have hnb:¬bp=b8:=by omega
     refine wp_region_made [(6, .pointer (some ⟨w.heap.size,0,none⟩)),(3, .int .u64 next),(1, .pointer (some ⟨bp,0,none⟩)),(8, .pointer (some ⟨b8,0,none⟩))]
      [some x.agg,some (.int .u64 next),some (.pointer (some ⟨bp,0,none⟩)),some (.pointer (some ⟨bp,0,none⟩)),some (.pointer (some ⟨bp,1,none⟩)),some (.agg q.s.cells.toArray),none,some (.pointer (some ⟨b8,20,none⟩)),none]
      (fun h W=>OsS W9 b8 q.s o (h 6) (h 8) W) (by kernel_rfl) (by kernel_rfl) (by kernel_rfl) (by kernel_rfl) ⟨rfl,rfl,rfl,rfl,trivial⟩ ⟨(Fr.refl _ W9).drew,H9.out.fr (Fr.refl No W9).drew id,fun v hv=>by cases hv⟩ ?_ ?_ ?_
     ·intro k o2 c ho hc h A' W' hS hpre hb
      match k,ho,hc,hpre with
      |0,ho,hc,hpre=>cases ho;cases hc;exact do_load (base_val hb 6 (by simp)) (run_loadAt_mid W' w.heap.size 0 _ _ _ (HBX.out.1.fr hS.fr hnx).cells underlying48 rfl (XI.info x))
      |1,ho,hc,hpre=>cases ho;cases hc;exact do_move (base_val hb 3 (by simp))
      |2,ho,hc,hpre=>cases ho;cases hc;exact do_move (base_val hb 1 (by simp))
      |3,ho,hc,hpre=>cases ho;cases hc;exact do_nil (pre_val hpre 2 29 (by kernel_rfl) rfl rfl)
      |4,ho,hc,hpre=>
       cases ho;cases hc
       have e:=pre_val hpre 3 30 (by kernel_rfl) rfl rfl
       show (execOp A'.eval ⟨some 31, .fieldAddr 74 (.tmp 30) 1,_,_,_,_⟩).run prog W'=_
       simp only [execOp,e]
       first|kernel_rfl|simp [go_sem]
      |5,ho,hc,hpre=>cases ho;cases hc;exact do_load (pre_val hpre 4 31 (by kernel_rfl) rfl rfl) (run_loadAt_mid W' bp 1 _ _ _ (hS.fr.cells HR9.out.both.path.cellsS hnb) underlying68 rfl (ST.info HSO.out))
      |6,ho,hc,hpre=>cases hc
      |7,ho,hc,hpre=>
       cases ho;cases hc
       have e:=base_val hb 8 (v:= .pointer (some ⟨b8,0,none⟩)) (by simp)
       show (execOp A'.eval ⟨some 34, .fieldAddr 68 (.tmp 8) 5,_,_,_,_⟩).run prog W'=_
       simp only [execOp,e]
       first|kernel_rfl|simp [go_sem]
      |8,ho,hc,hpre=>cases hc
      |n+9,ho,hc,hpre=>cases hc
     ·intro k o2 ho hc h A' W' hdf hi hS hpre hb
      match k,ho,hc,hi,hpre with
      |6,ho,hc,hi,hpre=>
       cases ho
       have e1:A'.eval (.tmp 27)=x.agg:=pre_val2 hpre 0 27 (by kernel_rfl) rfl rfl
       have e2:A'.eval (.tmp 28)= .int .u64 next:=pre_val2 hpre 1 28 (by kernel_rfl) rfl rfl
       have e3:A'.eval (.tmp 32)= .agg q.s.cells.toArray:=pre_val2 hpre 5 32 (by kernel_rfl) rfl rfl
       refine do_call (f:=37) (args:= #[x.agg, .int .u64 next, .agg q.s.cells.toArray]) ?_ ((HOC.out W').mono fun e w' hh=> ?_)
       ·show (execOp A'.eval ⟨some 33, .call {callee:= .value (.func 37),args:= #[.tmp 27, .tmp 28, .tmp 32],argTypes:=_},_,_,_,_⟩).run prog W'=_
        simp [execOp,resolve,invoke,e1,e2,e3,go_sem]
        exact ⟨by rw [←Array.getD_eq_getD_getElem?];exact e1,by rw [←Array.getD_eq_getD_getElem?];exact e2,by rw [←Array.getD_eq_getD_getElem?];exact e3⟩
       ·obtain ⟨rfl,hff⟩:=hh
        refine ⟨_,rfl,_,rfl,?_⟩
        show OsS W9 b8 q.s o (some (.int .u64 o)) (h 8) w'
        exact ⟨hS.fr.trans hff.any,hS.st.fr hff id,fun v hv=>(Option.some.inj hv).symm⟩
      |8,ho,hc,hi,hpre=>
       cases ho
       obtain ⟨v,h1,h2⟩:=pre_made hpre 6 33 (by kernel_rfl) rfl rfl
       obtain rfl:=hS.v6 v h1
       have hst:=hS.st
       rw [hi,if_pos rfl] at hst
       refine do_storeU (pre_val2 hpre 7 34 (by kernel_rfl) rfl rfl) h2 hst.at.2.2.2.2 (hst.open_ 20) ⟨undef,rfl,?_⟩
       show OsS W9 b8 q.s o (h 6) (some undef) _
       exact ⟨hS.fr.setCell (p:=⟨b8,20,none⟩) (.inr rfl) _,by rw [if_neg (by simp)];exact hst.setPC HOL.out,hS.v6⟩
      |0,ho,hc,hi,hpre=>cases hc
      |1,ho,hc,hi,hpre=>cases hc
      |2,ho,hc,hi,hpre=>cases hc
      |3,ho,hc,hi,hpre=>cases hc
      |4,ho,hc,hi,hpre=>cases hc
      |5,ho,hc,hi,hpre=>cases hc
      |7,ho,hc,hi,hpre=>cases hc
      |n+9,ho,hc,hi,hpre=>cases ho
     ·intro h V' W' hV hS
      have e8:h 8=some (V' 8):=hV 8 (by decide)
      have hst:=hS.st
      rw [e8,if_neg (by simp)] at hst
      exact hK _ _ (Met.intro (hJ _ _ ⟨V' 0,V' 1,V' 2,V' 3,V' 4,V' 5,V' 6,V' 7,Lib.hid ⟨hst,hS.fr⟩,by kernel_rfl⟩))
    case rest=>
     have HR10:=Lib.hid (HR9.out.fr8 hcut.out.2 (fun k hk=>by rw [hk];exact HNB.out.1) (fun k hk=>by rw [hk];exact HNB.out.2))
     have HBX2:=Lib.hid (HBX.out.1.fr hcut.out.2 (by omega))
     have H10:=Lib.hid hcut.out.1
     have HNR:=Lib.hid HBX.out.2
     have hwb:w.heap.size<wc.heap.size:=HBX2.out.lt
     have HB0:=Lib.hid (branch_any HR10.out.both.path {q.s with pc:=o} H10.out.ok (by have:=HB9.out.1;omega))
     clear HR9 HBX HOC hcut H9 HNB
     simp only [ST.agg] at HB0
     go_wp2_with (first
      |(refine H10.out.load rfl (.tmp 8) rfl rfl ?_)
      |(go_at_call 39;(with_reducible refine HB0.out.mono ?_);rintro e5 w5 ⟨bp2,bw2,mb2,N2,lo2,P2,rfl,hp5,hP5,hlo5,hf5⟩)
      |(go_at_call 38;(with_reducible refine (sguess_any (HR10.out.both.branched HQ0.out hp5.out hP5.out hlo5 hf5.out) HM.out HB9.out.2.2.2.1 HB9.out.2.2.2.2 (by have:=HB9.out.1;show q.waits.length≤800000;omega) (by have:=HB9.out.2.1;rw [HJL.out.1];omega) (by have:=HB9.out.2.2.1;rw [HJL.out.2];omega) HKK.out).mono ?_);rintro e6 w6 ⟨rfl,R5,hr6,hs6,hg6⟩))
     go_meet
     have hfr:=branched_fr (R:=R) hf5.out hg6.out hP5.out hlo5
     rw [←HT.out]
     exact Lib.hid ⟨R5,HR10.out.guessed hP5.out hlo5 hf5.out hr6.out hs6.out hg6.out,HBX2.out.fr hfr HNR.out,fun hr=>(hs6.out _ hr).elim HNR.out fun h=>by have:=hf5.out.size;omega⟩
  case rest=>
   obtain ⟨R2,hr2,hx2,hn2⟩:=hcut.out
   have HR2:=Lib.hid hr2
   have HBX2:=Lib.hid (And.intro hx2 hn2)
   clear hcut HRX HBX hr2 hx2 hn2
   have HL5:Hid (t5.tr.length≤700040∧t5.sq≤800000020):=Lib.hid (by
    have e:=HT5.out
    have a:=HJL.out
    have b:=HB9.out
    cases jb
    ·simp only [Bool.false_eq_true,if_false] at e
     rw [←e,a.1,a.2];omega
    ·simp only [if_true] at e
     have c:=go_len (ds:=ds) (code:=code) window {q with s:={q.s with pc:=otherM x next q.s}} t3
     rw [a.1,a.2] at c
     rw [←e];exact ⟨Nat.le_trans c.1 (by omega),Nat.le_trans c.2 (by omega)⟩)
   clear HT5 HJL
   have HBN:=Lib.hid (back_any HR2.out.both.run HR2.out.both.path HR2.out.both.dis (by have:=HB9.out.1;omega) x HXO.out.1)
   obtain ⟨bk,hbk⟩:∃bk,backM x q t5=bk:=⟨_,rfl⟩
   have HBT:Hid (bk.2.tr=t5.tr∧bk.2.sq=t5.sq):=Lib.hid (hbk ▸ back_tr x q t5)
   have HBL:Hid (bk.1≤q.waits.length∧(0<bk.1→x.kind=13)):=Lib.hid ⟨hbk ▸ back_le,fun h=>back_kind (t:=t5) (p:=q) (by rw [hbk];exact h)⟩
   have HG2:Hid ((if 0<bk.1 then match staleM q x next bk.1 with|none=>bk.2|some s=>goM ds code window {q with s:=s} bk.2 else bk.2)=G):=Lib.hid (by rw [←hbk];exact HG.out)
   rw [hbk] at HBN
   clear hbk HG
   obtain ⟨bn,t6⟩:=bk
   simp only at HBT HBL HBN HG2
   go_upto_region 6 with (first
    |(refine HBX2.out.1.load rfl (.tmp 6) rfl rfl ?_)
    |(go_at_call 40;(with_reducible refine HBN.out.mono ?_);rintro e7 w7 ⟨rfl,HS7,hf7⟩))
   have HR7:=Lib.hid (HR2.out.ask HS7.out hf7.out)
   replace HBX2:=Lib.hid (And.intro (HBX2.out.1.fr hf7.out (fun e=>HBX2.out.2 (e ▸ HR2.out.both.run.own.2.1))) HBX2.out.2)
   clear HR2 HBN HS7 hf7
   by_cases h0:0<bn
   ·have z1:(0:Int)<(bn:Int):=by omega
    have HST:=Lib.hid (stale_any HR7.out.both.path HM.out x next bn HXO.out.1 HXO.out.2.1 (HBL.out.2 h0) HXO.out.2.2 (by have:=HB9.out.1;omega) HBL.out.1)
    have HGS:=Lib.hid HG2.out
    rw [if_pos h0] at HGS
    clear HG2
    generalize staleM q x next bn=so at*
    cases so with
    |none=>
     simp only [staV] at HST
     simp only at HGS
     go_upto_region 8 with (first
      |(refine HBX2.out.1.load rfl (.tmp 6) rfl rfl ?_)
      |(go_at_call 41;(with_reducible refine HST.out.mono ?_);rintro e8 w8 ⟨rfl,hf8,_⟩)
      |(refine (HSN.out _ _).1.store ST.zero_ok rfl (.tmp 10) (.tmp 52) rfl rfl rfl ?_;intro W9 h9 hf9))
     have HF9:Hid (Fr No w7 W9):=Lib.hid (hf8.out.trans (((HSN.out w8 68).2.any.trans (hf9.mono fun k _ hk=>by show w8.heap.size≤k;omega):Fr (From w8) w8 W9).ours))
     go_wp2_with fail
     first|go_end0|refine bodyPost_ret (results_none rfl _ _ _) rfl ?_
     have:=(HR7.out.no HF9.out).end_
     rw [HGS.out] at this
     exact ⟨rfl,R2,this⟩
    |some s=>
     simp only [staV] at HST
     simp only at HGS
     go_upto_region 8 with (first
      |(refine HBX2.out.1.load rfl (.tmp 6) rfl rfl ?_)
      |(go_at_call 41;(with_reducible refine HST.out.mono ?_);rintro e8 w8 ⟨rfl,hf8,hso⟩;replace hso:=Lib.hid (hso s rfl))
      |(refine (HSN.out _ _).1.store hso.out rfl (.tmp 10) (.tmp 52) rfl rfl rfl ?_;intro W9 h9 hf9))
     have HF9:Hid (Fr No w7 W9):=Lib.hid (hf8.out.trans (((HSN.out w8 68).2.any.trans (hf9.mono fun k _ hk=>by show w8.heap.size≤k;omega):Fr (From w8) w8 W9).ours))
     have HR9:=Lib.hid (HR7.out.no HF9.out)
     have H9:=Lib.hid h9
     have HB0:=Lib.hid (branch_any HR9.out.both.path s hso.out (by have:=HB9.out.1;omega))
     clear HR7 hf8 hf9 HF9 HSN HST h9
     simp only [ST.agg] at HB0
     go_wp2_with (first
      |(refine H9.out.load rfl (.tmp 10) rfl rfl ?_)
      |(go_at_call 39;(with_reducible refine HB0.out.mono ?_);rintro e5 w5 ⟨bp2,bw2,mb2,N2,lo2,P2,rfl,hp5,hP5,hlo5,hf5⟩)
      |(go_at_call 38;(with_reducible refine (sguess_any (HR9.out.both.branched HQ0.out hp5.out hP5.out hlo5 hf5.out) HM.out HB9.out.2.2.2.1 HB9.out.2.2.2.2 (by have:=HB9.out.1;show q.waits.length≤800000;omega) (by have:=HL5.out.1;rw [HBT.out.1];omega) (by have:=HL5.out.2;rw [HBT.out.2];omega) HKK.out).mono ?_);rintro e6 w6 ⟨rfl,R5,hr6,hs6,hg6⟩))
     first|go_end0|refine bodyPost_ret (results_none rfl _ _ _) rfl ?_
     have:=(HR9.out.guessed hP5.out hlo5 hf5.out hr6.out hs6.out hg6.out).end_
     rw [HGS.out] at this
     exact ⟨rfl,R5,this⟩
   ·have z1:¬(0:Int)<(bn:Int):=by omega
    have HGS:=Lib.hid HG2.out
    rw [if_neg h0] at HGS
    clear HG2
    go_wp2_with fail
    first|go_end0|refine bodyPost_ret (results_none rfl _ _ _) rfl ?_
    have:=HR7.out.end_
    rw [HGS.out] at this
    exact ⟨rfl,R2,this⟩
end Go.Proofs.YtfmcmfiebehhiaaGreatDoor
namespace Go.Proofs.YtfmcmfiebehhiaaGreatDoor
open Go.Proofs.Tryz
open Go.RowKit
theorem items_any(a:Option Addr)(n c:Nat)(w:World):Calls prog 15 #[.slice a n c] w fun e w'=>∃bi bs,e= .returned (.func (.func 34) #[] #[.pointer (some ⟨bi,0,none⟩), .pointer (some ⟨bs,0,none⟩)])∧Hid (w.heap.size≤bi∧w.heap.size≤bs∧bi≠bs∧w'.cell? ⟨bi,0,none⟩=some (.int .i64 (0:Nat))∧w'.cell? ⟨bs,0,none⟩=some (.slice a n c)∧(∀j,w'.frozen? ⟨bi,j,none⟩=false)∧Fr No w w'):=by
 have HA:Hid (∀t1 t2,((w.alloc (.cells #[.slice a n c] t1)).alloc (.cells #[.int .i64 0] t2)).cell? ⟨w.heap.size+1,0,none⟩=some (.int .i64 (0:Nat))∧((w.alloc (.cells #[.slice a n c] t1)).alloc (.cells #[.int .i64 0] t2)).cell? ⟨w.heap.size,0,none⟩=some (.slice a n c)∧(∀j,((w.alloc (.cells #[.slice a n c] t1)).alloc (.cells #[.int .i64 0] t2)).frozen? ⟨w.heap.size+1,j,none⟩=false)∧Fr No w ((w.alloc (.cells #[.slice a n c] t1)).alloc (.cells #[.int .i64 0] t2))):=Lib.hid fun t1 t2=>by
  obtain ⟨W1,hW1⟩:∃W1,W1=w.alloc (.cells #[.slice a n c] t1):=⟨_,rfl⟩
  have z1:W1.heap.size=w.heap.size+1:=by rw [hW1,size_alloc]
  have f1:Fr No w W1:=by rw [hW1];exact fr_alloc _ _
  have c1:W1.cell? ⟨w.heap.size,0,none⟩=some (.slice a n c):=by rw [hW1];exact CellsAt.new w [.slice a n c] _ 0 _ rfl
  rw [←hW1,←z1]
  exact ⟨CellsAt.new W1 [.int .i64 0] _ 0 _ rfl,(fr_alloc _ _:Fr No W1 _).cell c1 id,fun j=>World.frozen?_alloc_new _ _ _ _,f1.trans (fr_alloc _ _)⟩
 go_enter func15,ntmps15
 go_wp2_with fail
 go_ret
 obtain ⟨h1,h2,h3,h4⟩:=HA.out 22 3
 exact ⟨_,_,rfl,Lib.hid ⟨by omega,by omega,by omega,h1,h2,h3,h4⟩⟩
theorem path_built2(bw:Nat){s:ST}(hs:s.ok):prog.built 74 [(0, .pointer (some ⟨bw,0,none⟩)),(1, .agg s.cells.toArray)]=some (pcells bw s (.slice none 0 0)).toArray:=by
 unfold pcells
 obtain ⟨v0,v1,v2,v3,v4,v5,v6,v7,v8,v9,v10,v11,v12,v13,v14,v15,v16,v17,v18,v19,v20,e⟩:=list21 s.cells (ST.cells_len hs)
 rw [e]
 kernel_rfl
structure TB(w:World)(b:Nat)(tv:Value)(n:Int):Prop where
 c0:w.cell? ⟨b,0,none⟩=some tv
 c1:w.cell? ⟨b,1,none⟩=some (.int .i64 n)
 open_:∀j,w.frozen? ⟨b,j,none⟩=false
theorem TB.lt{w:World}{b:Nat}{tv:Value}{n:Int}(h:TB w b tv n):b<w.heap.size:=World.block_lt_of_cell? w _ h.c0
theorem TB.fr{T:Nat→Prop}{w w':World}{b:Nat}{tv:Value}{n:Int}(h:TB w b tv n)(hf:Fr T w w')(hb:¬T b):TB w' b tv n:=
 ⟨hf.cell h.c0 hb,hf.cell h.c1 hb,fun j=>by rw [cells_frozen hf h.lt hb];exact h.open_ j⟩
structure RB(wo:World)(a k:Int)(tv:Value)(sq:Int)(w:World):Prop where
 out:OB w wo.heap.size a k
 tld:TB w (wo.heap.size+1) tv sq
theorem RB.fr{T:Nat→Prop}{wo w w':World}{a k:Int}{tv:Value}{sq:Int}(h:RB wo a k tv sq w)(hf:Fr T w w')(h0:¬T wo.heap.size)(h1:¬T (wo.heap.size+1)):RB wo a k tv sq w':=⟨h.out.fr hf h0,h.tld.fr hf h1⟩
theorem RB.no{wo w w':World}{a k:Int}{tv:Value}{sq:Int}(h:RB wo a k tv sq w)(hf:Fr No w w'):RB wo a k tv sq w':=h.fr hf id id
theorem RB.start(w:World)(t1 t2:TypeId):RB w 0 0 (.slice none 0 0) 0 ((w.alloc (.cells #[.int .u64 0, .int .i64 0] t1)).alloc (.cells #[.slice none 0 0, .int .i64 0] t2))∧Fr No w ((w.alloc (.cells #[.int .u64 0, .int .i64 0] t1)).alloc (.cells #[.slice none 0 0, .int .i64 0] t2)):=by
 obtain ⟨W1,hW1⟩:∃W1,W1=w.alloc (.cells #[.int .u64 0, .int .i64 0] t1):=⟨_,rfl⟩
 have z1:W1.heap.size=w.heap.size+1:=by rw [hW1,size_alloc]
 have c1:OB W1 w.heap.size 0 0:=by rw [hW1];exact ⟨CellsAt.new w [.int .u64 0, .int .i64 0] _,fun j=>World.frozen?_alloc_new _ _ _ _⟩
 have f1:Fr No w W1:=by rw [hW1];exact fr_alloc _ _
 rw [←hW1]
 refine ⟨⟨c1.fr (fr_alloc _ _) (T:=No) id,?_⟩,f1.trans (fr_alloc _ _)⟩
 rw [←z1]
 have c:=CellsAt.new W1 [.slice none 0 0, .int .i64 0] t2
 exact ⟨c 0 _ rfl,c 1 _ rfl,fun j=>World.frozen?_alloc_new _ _ _ _⟩
theorem TB.put{w:World}{b:Nat}{tv:Value}{n:Int}(h:TB w b tv n)(tv':Value)(n':Int):TB ((w.setCell ⟨b,0,none⟩ tv').setCell ⟨b,1,none⟩ (.int .i64 n')) b tv' n':=by
 refine ⟨?_,?_,fun j=>by rw [World.frozen?_setCell,World.frozen?_setCell];exact h.open_ j⟩
 ·rw [World.cell?_setCell_other _ _ _ _ (by intro e;simp only [Addr.mk.injEq] at e;omega)]
  exact World.cell?_setCell_same _ _ _ h.c0
 ·exact World.cell?_setCell_same _ _ _ (by rw [World.cell?_setCell_other _ _ _ _ (by intro e;simp only [Addr.mk.injEq] at e;omega)];exact h.c1)
theorem results_spec{fn:Func}{a b t:Tmp}(h:fn.results= #[.cell a 39, .cell b 41, .tmp t])(tmps:Array Value)(w:World)(bo bs:Nat)(u k:Int)(tv:Value)(sq:Int)(h1:tv.oneCell'=true)(hO:OB w bo u k)(hS:TB w bs tv sq)(ha:tmps.getD a undef= .pointer (some ⟨bo,0,none⟩))(hb:tmps.getD b undef= .pointer (some ⟨bs,0,none⟩)):
  (results fn tmps).run prog w= .ok (.tuple #[outV u k, .agg #[tv, .int .i64 sq],tmps.getD t undef]) w:=by
 have h1:=run_loadVar_mid w bo 0 39 [.int .u64 u, .int .i64 k] _ hO.cells underlying39 rfl (by kernel_rfl)
 have hc:CellsAt w bs 0 [tv, .int .i64 sq]:=fun j v hj=>by
  rw [Nat.zero_add]
  match j,hj with
  |0,hj=>cases hj;exact hS.c0
  |1,hj=>cases hj;exact hS.c1
 have h2:=run_loadVar_mid w bs 0 41 [tv, .int .i64 sq] _ hc underlying41 rfl (by kernel_rfl)
 have ha':tmps[a]?.getD undef= .pointer (some ⟨bo,0,none⟩):=by rw [←Array.getD_eq_getD_getElem?];exact ha
 have hb':tmps[b]?.getD undef= .pointer (some ⟨bs,0,none⟩):=by rw [←Array.getD_eq_getD_getElem?];exact hb
 simp [results,h,ha',hb',h1,h2,asAddr,outV]
section
variable {ds:List MapD} {code:List UInt8} {window n k:Nat} {p:PM} {t:TM} {x:XI} {next:Nat} {script:List UInt8} {most:Int} {W:HW}
theorem runS_halt(h:p.s.pc=10485760):runS ds code window n k p t=(.ok (p.s.reg 0,k,t),p.W):=by cases n<;>(unfold runS;rw [if_pos h])
theorem runS_budget(h:p.s.pc≠10485760):runS ds code window 0 k p t=(.error 100,p.W):=by unfold runS;rw [if_neg h]
theorem runS_none(h:p.s.pc≠10485760)(hf:fetchM code p.s.pc=none):runS ds code window (n+1) k p t=(.error 110,p.W):=by
 rw [runS,if_neg h,hf]
theorem runS_some(h:p.s.pc≠10485760)(hf:fetchM code p.s.pc=some (x,next)):runS ds code window (n+1) k p t=if (stepP ds p x next).1≠0 then (.error (stepP ds p x next).1,(stepP ds p x next).2.W) else runS ds code window n (k+1) (stepP ds p x next).2 (wrongM ds code window p x next (tellM x p.s t)):=by
 rw [runS,if_neg h,hf]
theorem specM_cases(hw:window≤16)(hg:∀e,(beginM W).1= .error e→e≠0):(erOf (beginM W).1=0∧specM ds code window script most W=runS ds code window most.toNat 0 ⟨(beginM W).2,stOf (beginM W).1, []⟩ ⟨[],0,script⟩)∨(erOf (beginM W).1≠0∧specM ds code window script most W=(.error (erOf (beginM W).1),(beginM W).2)):=by
 unfold specM
 rw [if_neg (by omega)]
 cases hb:beginM W with
 |mk r V=>
  rw [hb] at hg
  cases r with
  |ok s=>exact .inl ⟨rfl,by simp only [Int.toNat_natCast];rfl⟩
  |error e=>exact .inr ⟨hg e rfl,rfl⟩
end
structure RS(w0 wo:World)(N bw mb:Nat)(ds:List MapD)(pk:Nat)(RL:RQ)(bp br bi bs:Nat)(code:List UInt8)(window:Nat)(script:List UInt8)(K R P:Nat→Prop)(q:PM)(t:TM)(a k:Int)(tv:Value)(sq:Int)(w:World):Prop where
 both:Both w0 N bw mb ds pk RL bp br bi bs code window script R K P q t w
 rb:RB wo a k tv sq w
 fr:Fr (fun k=>Zof w0 N RL k∨wo.heap.size≤k) wo w
 lb:N≤wo.heap.size
 rfree:∀k,R k→wo.heap.size+1<k
 pfree:∀k,P k→wo.heap.size+1<k
section
variable {w0 wo w w':World} {N bw mb pk bp br bi bs window:Nat} {ds:List MapD} {RL:RQ} {code script:List UInt8} {K R P R2 P2:Nat→Prop} {q q2:PM} {t t2:TM} {a k:Int} {tv:Value} {sq:Int}
theorem RS.lt(h:RS w0 wo N bw mb ds pk RL bp br bi bs code window script K R P q t a k tv sq w):wo.heap.size+1<w.heap.size:=h.rb.tld.lt
theorem RS.no(h:RS w0 wo N bw mb ds pk RL bp br bi bs code window script K R P q t a k tv sq w)(hf:Fr No w w'):RS w0 wo N bw mb ds pk RL bp br bi bs code window script K R P q t a k tv sq w':=
 ⟨h.both.no hf,h.rb.no hf,h.fr.trans hf.any,h.lb,h.rfree,h.pfree⟩
theorem RS.told(h:RS w0 wo N bw mb ds pk RL bp br bi bs code window script K R P q t a k tv sq w)(hr:SpRun br bi bs code window script R2 K t2 w')(hR:∀k,R2 k→R k∨w.heap.size≤k)(hf:Fr R w w'):RS w0 wo N bw mb ds pk RL bp br bi bs code window script K R2 P q t2 a k tv sq w':=
 ⟨h.both.told hr hR hf,h.rb.fr hf (fun hr=>by have:=h.rfree _ hr;omega) (fun hr=>by have:=h.rfree _ hr;omega),h.fr.trans (hf.mono fun k _ hk=> .inr (by have:=h.rfree _ hk;omega)),h.lb,fun k hk=>(hR k hk).elim (h.rfree k) fun hk=>Nat.lt_of_lt_of_le h.lt hk,h.pfree⟩
theorem RS.step(h:RS w0 wo N bw mb ds pk RL bp br bi bs code window script K R P q t a k tv sq w)(hp:PathAt w0 N bw mb ds pk RL bp P2 q2 w')(hP:∀k,P2 k→P k∨w.heap.size≤k)(hf:Fr (fun k=>P k∨Zof w0 N RL k) w w'):RS w0 wo N bw mb ds pk RL bp br bi bs code window script K R P2 q2 t a k tv sq w':=by
 have hlb:=h.lb
 refine ⟨h.both.step hp hP hf,h.rb.fr hf (fun hr=> ?_) (fun hr=> ?_),h.fr.trans (hf.mono fun k _ hk=>hk.elim (fun hk=> .inr (by have:=h.pfree _ hk;omega)) .inl),h.lb,h.rfree,fun k hk=>(hP k hk).elim (h.pfree k) fun hk=>Nat.lt_of_lt_of_le h.lt hk⟩
 ·rcases hr with hr|hr
  ·have:=h.pfree _ hr;omega
  ·have:=hr.2.2;omega
 ·rcases hr with hr|hr
  ·have:=h.pfree _ hr;omega
  ·have:=hr.2.2;omega
theorem RS.own(h:RS w0 wo N bw mb ds pk RL bp br bi bs code window script K R P q t a k tv sq w){b:Nat}(hb:¬R b∧¬P b∧¬K b∧wo.heap.size+1<b)(hf:Fr (fun k=>k=b) w w'):RS w0 wo N bw mb ds pk RL bp br bi bs code window script K R P q t a k tv sq w':=by
 obtain ⟨h1,h2,h3,h4⟩:=hb
 have hlb:=h.lb
 have hlo:=h.both.path.wm.lo
 have hbw:=h.both.path.wm.bw
 have h5:Out w0 N RL b:=⟨by omega, .inl (by omega)⟩
 refine ⟨⟨h.both.run.fr hf fun k hk=>by rw [hk];exact ⟨h1,h3⟩,h.both.path.fr hf fun k hk=>by rw [hk];exact ⟨h5,h2⟩,h.both.dis,h.both.out,h.both.kout⟩,h.rb.fr hf (by omega) (by omega),h.fr.trans (hf.mono fun k _ hk=> .inr (by omega)),h.lb,h.rfree,h.pfree⟩
theorem RS.put(h:RS w0 wo N bw mb ds pk RL bp br bi bs code window script K R P q t a k tv sq w){a' k':Int}{tv':Value}{sq':Int}(hr:RB wo a' k' tv' sq' w')(hf:Fr (fun k=>k=wo.heap.size∨k=wo.heap.size+1) w w')(hK:¬K wo.heap.size∧¬K (wo.heap.size+1)):RS w0 wo N bw mb ds pk RL bp br bi bs code window script K R P q t a' k' tv' sq' w':=by
 have hlb:=h.lb
 have hlo:=h.both.path.wm.lo
 have hbw:=h.both.path.wm.bw
 refine ⟨⟨h.both.run.fr hf fun k hk=>⟨fun hr=>by have:=h.rfree k hr;omega,fun hk2=> ?_⟩,h.both.path.fr hf fun k hk=>⟨⟨by omega, .inl (by omega)⟩,fun hp=>by have:=h.pfree k hp;omega⟩,h.both.dis,h.both.out,h.both.kout⟩,hr,h.fr.trans (hf.mono fun k _ hk=> .inr (by omega)),h.lb,h.rfree,h.pfree⟩
 rcases hk with rfl|rfl
 ·exact hK.1 hk2
 ·exact hK.2 hk2
theorem RB.zero(h:RB wo a k tv sq w):RB wo 0 0 (.slice none 0 0) 0 ((((w.setCell ⟨wo.heap.size,0,none⟩ (.int .u64 0)).setCell ⟨wo.heap.size,1,none⟩ (.int .i64 0)).setCell ⟨wo.heap.size+1,0,none⟩ (.slice none 0 0)).setCell ⟨wo.heap.size+1,1,none⟩ (.int .i64 0))∧Fr (fun k=>k=wo.heap.size∨k=wo.heap.size+1) w ((((w.setCell ⟨wo.heap.size,0,none⟩ (.int .u64 0)).setCell ⟨wo.heap.size,1,none⟩ (.int .i64 0)).setCell ⟨wo.heap.size+1,0,none⟩ (.slice none 0 0)).setCell ⟨wo.heap.size+1,1,none⟩ (.int .i64 0)):=by
 have o2:=h.out.put 0 0
 have f2:Fr (fun k=>k=wo.heap.size) w ((w.setCell ⟨wo.heap.size,0,none⟩ (.int .u64 0)).setCell ⟨wo.heap.size,1,none⟩ (.int .i64 0)):=((Fr.refl (fun k=>k=wo.heap.size) w).setCell (p:=⟨wo.heap.size,0,none⟩) (.inr rfl) _).setCell (p:=⟨wo.heap.size,1,none⟩) (.inr rfl) _
 generalize ((w.setCell ⟨wo.heap.size,0,none⟩ (.int .u64 0)).setCell ⟨wo.heap.size,1,none⟩ (.int .i64 0))=W2 at*
 have t2:=h.tld.fr f2 (by omega)
 have f4:Fr (fun k=>k=wo.heap.size+1) W2 ((W2.setCell ⟨wo.heap.size+1,0,none⟩ (.slice none 0 0)).setCell ⟨wo.heap.size+1,1,none⟩ (.int .i64 0)):=((Fr.refl (fun k=>k=wo.heap.size+1) W2).setCell (p:=⟨wo.heap.size+1,0,none⟩) (.inr rfl) _).setCell (p:=⟨wo.heap.size+1,1,none⟩) (.inr rfl) _
 exact ⟨⟨o2.fr f4 (by omega),t2.put _ _⟩,(f2.mono fun k _ hk=> .inl hk).trans (f4.mono fun k _ hk=> .inr hk)⟩
theorem RS.end_(h:RS w0 wo N bw mb ds pk RL bp br bi bs code window script K R P q t a k tv sq w):Hid (WM w0 N bw mb ds pk RL q.W w)∧Hid (Fr (Zof w0 N RL) wo w):=⟨h.both.path.wm,h.fr.mono fun k hk hz=>hz.resolve_right (by omega)⟩
end
end Go.Proofs.YtfmcmfiebehhiaaGreatDoor

