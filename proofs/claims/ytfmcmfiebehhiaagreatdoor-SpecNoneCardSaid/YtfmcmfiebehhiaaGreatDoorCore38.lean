/- package spec, plain: a guess, round by round; what a round of guess keeps. -/
import Derived.Test.YtfmcmfiebehhiaaGreatDoorCore37
set_option linter.all false
set_option linter.unusedVariables false
set_option linter.unusedSimpArgs false
namespace Go.Proofs.YtfmcmfiebehhiaaGreatDoor
open Go.Proofs.Tryz
open Go.RowKit
theorem fetch_ok{code:List UInt8}{pc:Nat}{x:XI}{next:Nat}(h:fetchM code pc=some (x,next)):x.ok∧validM x=true∧next<18446744073709551616:=by
 unfold fetchM at h
 dsimp only at h
 split at h
 ·cases h
 ·split at h
  ·cases h
  ·rename_i u hu
   have e:=Option.some.inj h
   obtain ⟨h1,t,h2,_⟩:=decode_is (n:=u.2) (y:=u.1) hu
   have e1:u.1=x:=congrArg Prod.fst e
   have e2:(pc+u.2)%18446744073709551616=next:=congrArg Prod.snd e
   rw [e1] at h1 h2
   refine ⟨h1,?_,by omega⟩
   unfold encodeM at h2
   split at h2
   ·cases h2
   ·rename_i h3
    simpa using h3
section
variable {ds:List MapD} {code:List UInt8} {n:Nat} {p:PM} {t:TM} {x:XI} {next:Nat}
theorem goM_none(hf:fetchM code p.s.pc=none):goM ds code (n+1) p t=t:=by
 unfold goM;simp only [hf]
theorem goM_drain(hf:fetchM code p.s.pc=some (x,next))(hd:drainsM x.kind=true):goM ds code (n+1) p t={t with sq:=t.sq+1,tr:=t.tr++ [p.s.pc]}:=by
 unfold goM;simp only [hf,hd,if_true]
theorem goM_jump(hf:fetchM code p.s.pc=some (x,next))(hd:drainsM x.kind=false){j:TM}(hj:jccM x (tellM x p.s {t with sq:=t.sq+1})=(true,j)):goM ds code (n+1) p t=goM ds code n {p with s:={p.s with pc:=otherM x next p.s}} j:=by
 rw [goM];simp only [hf,hd,hj,if_true,Bool.false_eq_true,if_false]
theorem goM_stale(hf:fetchM code p.s.pc=some (x,next))(hd:drainsM x.kind=false){j:TM}(hj:jccM x (tellM x p.s {t with sq:=t.sq+1})=(false,j)){b:Nat×TM}(hb:backM x p j=b)(h0:0<b.1):goM ds code (n+1) p t=match staleM p x next b.1 with|none=>b.2|some s=>goM ds code n {p with s:=s} b.2:=by
 rw [goM];simp only [hf,hd,hj,hb,h0,if_true,Bool.false_eq_true,if_false];rfl
theorem goM_step(hf:fetchM code p.s.pc=some (x,next))(hd:drainsM x.kind=false){j:TM}(hj:jccM x (tellM x p.s {t with sq:=t.sq+1})=(false,j)){b:Nat×TM}(hb:backM x p j=b)(h0:¬0<b.1){q:Int×PM}(hq:stepP ds p x next=q):goM ds code (n+1) p t=if q.1≠0 then b.2 else goM ds code n q.2 b.2:=by
 rw [goM];simp only [hf,hd,hj,hb,h0,hq,Bool.false_eq_true,if_false]
theorem jcc_yes(hk:x.kind=16):jccM x t=(decide ((itemM t).1≠0),(itemM t).2):=if_pos hk
theorem jcc_no(hk:x.kind≠16):jccM x t=(false,t):=if_neg hk
theorem back_le:(backM x p t).1≤p.waits.length:=by
 unfold backM
 split
 ·exact Nat.zero_le _
 ·have:=Nat.mod_lt (itemM t).1 (show 0<1+p.waits.length by omega)
  omega
theorem back_kind(h:0<(backM x p t).1):x.kind=13:=by
 unfold backM at h
 split at h
 ·exact absurd h (Nat.lt_irrefl _)
 ·rename_i h2
  exact Classical.not_not.1 fun h3=>h2 (.inl h3)
theorem step_waits:(stepP ds p x next).2.waits.length≤p.waits.length+1:=by
 unfold stepP
 simp only
 split
 ·exact Nat.le_succ _
 ·simp only
  split
  ·rw [List.length_append];exact Nat.le_refl _
  ·split
   ·exact Nat.zero_le _
   ·exact Nat.le_succ _
end
structure GR(w0:World)(N bw mb:Nat)(ds:List MapD)(pk:Nat)(RL:RQ)(bp br bi bs:Nat)(code:List UInt8)(window:Nat)(script:List UInt8)(R K P:Nat→Prop)(w:World)(R' P':Nat→Prop)(q:PM)(t:TM)(wr:World):Prop where
 both:Both w0 N bw mb ds pk RL bp br bi bs code window script R' K P' q t wr
 rsub:∀k,R' k→R k∨w.heap.size≤k
 psub:∀k,P' k→P k∨w.heap.size≤k
 fr:Fr (fun k=>R k∨P k∨Zof w0 N RL k∨w.heap.size≤k) w wr
section
variable {w0 w wr w':World} {N bw mb pk bp br bi bs window n m:Nat} {ds:List MapD} {RL:RQ} {code script:List UInt8} {R R' R2 K P P' P2:Nat→Prop} {q q2:PM} {t t2:TM}
theorem GR.start(h:Both w0 N bw mb ds pk RL bp br bi bs code window script R K P q t w):GR w0 N bw mb ds pk RL bp br bi bs code window script R K P w R P q t w:=⟨h,fun _=> .inl,fun _=> .inl,Fr.refl _ _⟩
theorem GR.tell(h:GR w0 N bw mb ds pk RL bp br bi bs code window script R K P w R' P' q t wr)(hr:SpRun br bi bs code window script R2 K t2 w')(hR:∀k,R2 k→R' k∨wr.heap.size≤k)(hf:Fr R' wr w'):GR w0 N bw mb ds pk RL bp br bi bs code window script R K P w R2 P' q t2 w':=
 ⟨h.both.told hr hR hf,fun k hk=>(hR k hk).elim (h.rsub k) fun hk=> .inr (Nat.le_trans h.fr.size hk),h.psub,h.fr.trans (hf.mono fun k _ hk=>(h.rsub k hk).elim .inl fun h=> .inr (.inr (.inr h)))⟩
theorem GR.ask(h:GR w0 N bw mb ds pk RL bp br bi bs code window script R K P w R' P' q t wr)(hr:SpRun br bi bs code window script R' K t2 w')(hf:Fr (fun k=>k=bi) wr w'):GR w0 N bw mb ds pk RL bp br bi bs code window script R K P w R' P' q t2 w':=
 h.tell hr (fun _=> .inl) (hf.mono fun k _ hk=>by rw [hk];exact h.both.run.own.2.1)
theorem GR.step(h:GR w0 N bw mb ds pk RL bp br bi bs code window script R K P w R' P' q t wr)(hp:PathAt w0 N bw mb ds pk RL bp P2 q2 w')(hP:∀k,P2 k→P' k∨wr.heap.size≤k)(hf:Fr (fun k=>P' k∨Zof w0 N RL k) wr w'):GR w0 N bw mb ds pk RL bp br bi bs code window script R K P w R' P2 q2 t w':=
 ⟨h.both.step hp hP hf,h.rsub,fun k hk=>(hP k hk).elim (h.psub k) fun hk=> .inr (Nat.le_trans h.fr.size hk),h.fr.trans (hf.mono fun k _ hk=>hk.elim (fun hk=>(h.psub k hk).elim (fun h=> .inr (.inl h)) fun h=> .inr (.inr (.inr h))) fun h=> .inr (.inr (.inl h)))⟩
theorem GR.no(h:GR w0 N bw mb ds pk RL bp br bi bs code window script R K P w R' P' q t wr)(hf:Fr No wr w'):GR w0 N bw mb ds pk RL bp br bi bs code window script R K P w R' P' q t w':=
 ⟨h.both.no hf,h.rsub,h.psub,h.fr.trans hf.any⟩
theorem GR.set(h:GR w0 N bw mb ds pk RL bp br bi bs code window script R K P w R' P' q t wr)(hp:PathAt w0 N bw mb ds pk RL bp P' q2 w')(hf:Fr (fun k=>k=bp) wr w'):GR w0 N bw mb ds pk RL bp br bi bs code window script R K P w R' P' q2 t w':=
 h.step hp (fun _=> .inl) (hf.mono fun k _ hk=> .inl (by rw [hk];exact h.both.path.own))
theorem GR.end_(h:GR w0 N bw mb ds pk RL bp br bi bs code window script R K P w R' P' q t wr):Hid (SpRun br bi bs code window script R' K t wr)∧Hid (∀k,R' k→R k∨w.heap.size≤k)∧Hid (Fr (fun k=>R k∨P k∨Zof w0 N RL k) w wr):=
 ⟨h.both.run,h.rsub,h.fr.mono fun k hk hh=>hh.elim .inl fun hh=>hh.elim (fun h=> .inr (.inl h)) fun hh=>hh.elim (fun h=> .inr (.inr h)) fun h=>by omega⟩
end
def fetchX:Option (XI×Nat)→XI
 |some q=>q.1
 |none=>XI.zero
def fetchN:Option (XI×Nat)→Nat
 |some q=>q.2
 |none=>0
def fetchE:Option (XI×Nat)→Int
 |some _=>0
 |none=>110
theorem fetchV_is(f:Option (XI×Nat)):fetchV f= .tuple #[(fetchX f).agg, .int .u64 (fetchN f), .int .i64 (fetchE f)]:=by cases f<;>rfl
structure FeS(wc:World)(f:Option (XI×Nat))(h9 h14 h15:Option Value)(W:World):Prop where
 fr:Fr (From wc) wc W
 val:∀v,h9=some v→v=fetchV f
 dep:h14=none→h15=none
 box:∀v,h14=some v→∃b,v= .pointer (some ⟨b,0,none⟩)∧wc.heap.size≤b∧XB W b (if h15=none then XI.zero else fetchX f)
theorem XB.stored{w:World}{b:Nat}{x:XI}(h:XB w b x)(y:XI):XB (w.setCells b 0 y.cells) b y:=
 ⟨World.rangeAt_setCells_same w b 0 _ h.there,fun j=>by rw [World.frozen?_setCells];exact h.open_ j⟩
theorem PathAt.setPC{w0 w:World}{N bw mb pk bp:Nat}{ds:List MapD}{RL:RQ}{P:Nat→Prop}{q:PM}(h:PathAt w0 N bw mb ds pk RL bp P q w){v:Nat}(hv:v<18446744073709551616):PathAt w0 N bw mb ds pk RL bp P {q with s:={q.s with pc:=v}} (w.setCell ⟨bp,21,none⟩ (.int .u64 v)):=by
 have hf:Fr (fun k=>k=bp) w (w.setCell ⟨bp,21,none⟩ (.int .u64 v)):=(Fr.refl (fun k=>k=bp) w).setCell (p:=⟨bp,21,none⟩) (.inr rfl) _
 obtain ⟨wv,hc,hr,hk⟩:=h.box
 have ho:=h.apart _ h.own
 have ht:({q.s with pc:=v}:ST).ok:=h.ok.at_ hv
 have hcs:({q.s with pc:=v}:ST).cells=q.s.cells.set 20 (.int .u64 v):=((ST.hi_cells h.ok).2.2.2.2 v).symm
 refine ⟨h.wm.apart hf (fun k hk=>by rw [hk];exact ho.1) (fun k hk=>by rw [hk];exact ho.2),ht,h.mok,⟨wv,?_,ownsRow_fr hr hf (fun k hq=>(hk k hq).2),hk⟩,fun j=>by rw [World.frozen?_setCell];exact h.open_ j,h.own,h.apart,h.qlo,h.lens,fun k hk=>Nat.lt_of_lt_of_le (h.plt k hk) hf.size⟩
 intro j u hj
 rw [Nat.zero_add]
 have e:pcells bw {q.s with pc:=v} wv=(pcells bw q.s wv).set 21 (.int .u64 v):=by
  unfold pcells
  rw [hcs,List.set_cons_succ,List.set_append_left _ _ (by rw [ST.cells_len h.ok];decide)]
 rw [show pcells bw ({q with s:={q.s with pc:=v}}:PM).s wv=_ from e,List.getElem?_set] at hj
 by_cases h21:21=j
 ·subst h21
  rw [if_pos rfl,if_pos (by rw [pcells_len h.ok];decide)] at hj
  rw [←Option.some.inj hj]
  exact World.cell?_setCell_same _ _ _ h.pc
 ·rw [if_neg h21] at hj
  rw [World.cell?_setCell_other _ _ _ _ (by intro e2;simp only [Addr.mk.injEq] at e2;omega)]
  have:=hc j u hj
  rwa [Nat.zero_add] at this
structure TeS(wc:World)(br bi bs:Nat)(code:List UInt8)(window:Nat)(script:List UInt8)(R K:Nat→Prop)(t2:TM)(h6:Option Value)(W:World):Prop where
 fr:Fr R wc W
 no:h6=none→Fr No wc W
 told:h6≠none→∃R2,SpRun br bi bs code window script R2 K t2 W∧∀k,R2 k→R k∨wc.heap.size≤k
structure OtS(w0:World)(N bw mb:Nat)(ds:List MapD)(pk:Nat)(RL:RQ)(bp:Nat)(P:Nat→Prop)(q:PM)(o:Nat)(wc:World)(h6 h7 h11:Option Value)(W:World):Prop where
 fr:Fr (fun k=>k=bp) wc W
 no:h11=none→PathAt w0 N bw mb ds pk RL bp P q W
 yes:h11≠none→PathAt w0 N bw mb ds pk RL bp P {q with s:={q.s with pc:=o}} W
 v6:∀v,h6=some v→v=q.s.agg
 v7:∀v,h7=some v→v= .int .u64 o
 dep:(h6=none→h7=none)∧(h7=none→h11=none)
theorem other_lt(x:XI){next:Nat}(s:ST)(hn:next<18446744073709551616):otherM x next s<18446744073709551616:=by
 unfold otherM
 split
 ·exact hn
 ·exact farM_lt _ _
end Go.Proofs.YtfmcmfiebehhiaaGreatDoor

