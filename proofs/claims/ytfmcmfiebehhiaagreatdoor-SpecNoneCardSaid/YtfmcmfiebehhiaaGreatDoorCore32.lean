/- package spec: an item of the script; drains; other. package spec: other, tell, back. package spec: back. package spec: tell. package spec: a path's box is read and written. -/
import Derived.Test.YtfmcmfiebehhiaaGreatDoorCore30
import Derived.Test.YtfmcmfiebehhiaaGreatDoorCore31
import Derived.Test.YtfmcmfiebehhiaaGreatDoorCore25
import Derived.Test.YtfmcmfiebehhiaaGreatDoorCore27
import Derived.Deep.RegionHeld3
import Derived.Deep.CutRange
import Derived.Deep.AppendLies
import Derived.BigGuardPart
import Derived.Test.YtfmcmfiebehhiaaGreatDoorCore29
set_option linter.all false
set_option linter.unusedVariables false
set_option linter.unusedSimpArgs false
set_option maxRecDepth 100000
set_option maxHeartbeats 4000000
namespace Go.Proofs.YtfmcmfiebehhiaaGreatDoor
open Go.Proofs.Tryz
open Go.RowKit
theorem drop_cons{l:List UInt8}{k:Nat}(hk:k<l.length):l.drop k=l.getD k 0::l.drop (k+1):=by
 rw [List.drop_eq_getElem_cons hk,List.getD_eq_getElem?_getD,List.getElem?_eq_getElem hk];rfl
theorem item_any{w:World}{br bi bs window:Nat}{code script:List UInt8}{R K:Nat→Prop}{t:TM}(h:SpRun br bi bs code window script R K t w):
  Calls prog 34 #[.pointer (some ⟨bi,0,none⟩), .pointer (some ⟨bs,0,none⟩)] w fun e w'=>e= .returned (.int .i64 (itemM t).1)∧Hid (SpRun br bi bs code window script R K (itemM t).2 w')∧Hid (Fr (fun k=>k=bi) w w'):=by
 obtain ⟨k,k1,k2,k3⟩:=h.at_
 obtain ⟨v,v1,v2⟩:=h.scr
 obtain ⟨a,c,rfl⟩:=v2.form
 have hs:=h.small
 by_cases hk:k<script.length
 ·have q1:decide ((k:Int)≥(script.length:Int))=false:=by simp;omega
  have q2:decide ((script.length:Int)≤(k:Int))=false:=by simp;omega
  obtain ⟨g,off,cap,e,hc,hg⟩:∃g off cap,Value.slice a script.length c= .slice (some ⟨g,off,none⟩) script.length cap∧CellsAt w g off (u8s script)∧K g:=v2.resolve_left fun h=>by rw [h.1] at hk;exact absurd hk (Nat.not_lt_zero _)
  injection e with e1 e2 e3
  subst e1
  have ek:wrap64 ((k:Int)+1)=((k+1:Nat):Int):=by rw [IntWalk.wrap64_in _ (by omega)];rfl
  have em:wrap64 (((k+1:Nat):Int)-1)=(k:Int):=by rw [IntWalk.wrap64_in _ (by omega)];omega
  have hi:bi≠g:=fun e=>h.apart _ h.own.2.1 (e ▸ hg)
  have hbs:bi≠bs:=fun e=>h.apart _ h.own.2.1 (e ▸ h.keep)
  have cg:w.cell? ⟨g,off+k,none⟩=some (.int .u8 ((script.getD k 0).toNat:Int)):=by
   refine hc k _ ?_
   unfold u8s
   rw [List.getElem?_map,List.getElem?_eq_getElem hk,List.getD_eq_getElem?_getD,List.getElem?_eq_getElem hk]
   rfl
  have oi:=h.openi 0
  have hW:Hid (SpRun br bi bs code window script R K (itemM t).2 (w.setCell ⟨bi,0,none⟩ (.int .i64 ((k+1:Nat):Int)))∧Fr (fun k=>k=bi) w (w.setCell ⟨bi,0,none⟩ (.int .i64 ((k+1:Nat):Int)))):=by
   have hf:Fr (fun k=>k=bi) w (w.setCell ⟨bi,0,none⟩ (.int .i64 ((k+1:Nat):Int))):=(Fr.refl (fun k=>k=bi) w).setCell (p:=⟨bi,0,none⟩) (.inr rfl) _
   obtain ⟨tv,t1,t2,t3⟩:=h.row
   have e2:(itemM t).2.tr=t.tr∧(itemM t).2.sq=t.sq:=item_tr t
   have e3:(itemM t).2.sc=script.drop (k+1):=by unfold itemM;rw [k2,drop_cons hk]
   have nb:∀{b:Nat},b≠bi→¬(b=bi):=fun h=>h
   refine Lib.hid ⟨⟨hf.cell h.c0 h.own.2.2,hf.cell h.c1 h.own.2.2,hf.cell h.c2 h.own.2.2,⟨tv,hf.cell t1 h.own.2.2,by rw [e2.1];exact ownsRow_fr t2 hf (fun k hk=>(t3 k hk).2.2),t3⟩,by rw [e2.2];exact hf.cell h.c4 h.own.2.2,fun j=>by rw [World.frozen?_setCell];exact h.open_ j,fun j=>by rw [World.frozen?_setCell];exact h.openi j,h.own,⟨k+1,World.cell?_setCell_same _ _ _ k1,e3,by omega⟩,⟨_,hf.cell v1 (fun e=>hbs e.symm),v2.fr hf (fun q hq e=>h.apart _ h.own.2.1 (e ▸ hq))⟩,h.keep,h.apart,h.small,fun k hk=>Nat.lt_of_lt_of_le (h.klt k hk) hf.size,fun k hk=>Nat.lt_of_lt_of_le (h.rlt k hk) hf.size⟩,hf⟩
  have er:((itemM t).1:Int)=((script.getD k 0).toNat:Int):=by unfold itemM;rw [k2,drop_cons hk]
  rw [er]
  clear h v2 k2 er e3
  go_enter func34,ntmps34
  go_upto_region 4 with fail
  have v1':=(hW.out.2).cell v1 (fun e=>hbs e.symm)
  have k1':(w.setCell ⟨bi,0,none⟩ (.int .i64 ((k+1:Nat):Int))).cell? ⟨bi,0,none⟩=some (.int .i64 ((k+1:Nat):Int)):=World.cell?_setCell_same _ _ _ k1
  have cg':=(hW.out.2).cell cg (fun e=>hi e.symm)
  refine wp_box (fun W=>Hid ((SpRun br bi bs code window script R K (itemM t).2 W∧Fr (fun k=>k=bi) w W)∧W.cell? ⟨bs,0,none⟩=some (.slice (some ⟨g,off,none⟩) script.length c)∧W.cell? ⟨bi,0,none⟩=some (.int .i64 ((k+1:Nat):Int))∧W.cell? ⟨g,off+k,none⟩=some (.int .u8 ((script.getD k 0).toNat:Int)))) (by exact Lib.hid ⟨hW.out,v1',k1',cg'⟩) ?_
  clear hW v1' k1' cg' v1 k1 cg oi
  intro W1 hW
  have v1:=hW.out.2.1
  have k1:=hW.out.2.2.1
  have cg:=hW.out.2.2.2
  go_wp2_with fail
  go_ret
  exact ⟨congrArg (fun z=>Ending.returned (.int .i64 z)) (IntWalk.wrap64_in _ (by have:=UInt8.toNat_lt script[k];omega)),Lib.hid hW.out.1.1,Lib.hid hW.out.1.2⟩
 ·have q1:decide ((k:Int)≥(script.length:Int))=true:=by simp;omega
  have q2:decide ((script.length:Int)≤(k:Int))=true:=by simp;omega
  have et:itemM t=(0,t):=by unfold itemM;rw [k2,List.drop_eq_nil_of_le (by omega)]
  have HL:=Lib.hid h
  rw [et]
  clear h v2 k2 et
  go_enter func34,ntmps34
  go_wp2_with fail
  go_ret
  exact ⟨rfl,HL,Lib.hid (Fr.refl _ _)⟩
theorem drains_any(k:Int)(w:World):Calls prog 44 #[.int .i64 k] w fun e w'=>e= .returned (.bool (drainsM k))∧w=w':=by
 unfold drainsM
 have d:∀m:Int,(k==m)=decide (k=m):=fun m=>rfl
 rw [←d,←d,←d]
 clear d
 generalize h1:(k==(21:Int))=b1
 generalize h2:(k==(20:Int))=b2
 generalize h3:(k==(19:Int))=b3
 go_enter func44,ntmps44
 cases b1<;>cases b2<;>cases b3<;>(go_wp2_with fail;go_ret;exact ⟨rfl,rfl⟩)
theorem other_any(x:XI)(next:Nat)(s:ST)(w:World)(hs:s.ok)(hx:x.ok)(hn:next<18446744073709551616):
  Calls prog 37 #[x.agg, .int .u64 next,s.agg] w fun e w'=>e= .returned (.int .u64 (otherM x next s))∧Fr No w w':=by
 have HTK:Hid (∀W',Calls prog 71 #[.int .i64 x.cond, .agg s.cells.toArray] W' fun e w'=>e= .returned (.bool (takenM x.cond s))∧Fr No W' w'):=fun W'=>taken_any x.cond s W' hs
 have hr:=hx.rel
 have HB:Hid (∀t1 t2,Fr No w ((w.alloc (.cells x.cells.toArray t1)).alloc (.cells s.cells.toArray t2))∧CellsAt ((w.alloc (.cells x.cells.toArray t1)).alloc (.cells s.cells.toArray t2)) w.heap.size 0 x.cells∧SAt ((w.alloc (.cells x.cells.toArray t1)).alloc (.cells s.cells.toArray t2)) (w.heap.size+1) s):=fun t1 t2=>by
  obtain ⟨W1,hW1⟩:∃W1,W1=w.alloc (.cells x.cells.toArray t1):=⟨_,rfl⟩
  have z1:W1.heap.size=w.heap.size+1:=by rw [hW1,size_alloc]
  have f1:Fr No w W1:=by rw [hW1];exact fr_alloc _ _
  have c1:CellsAt W1 w.heap.size 0 x.cells:=by rw [hW1];exact CellsAt.new w _ _
  rw [←hW1]
  exact ⟨f1.trans (fr_alloc _ _),(fr_alloc _ _:Fr No W1 _).cells c1 id,by rw [←z1];exact SAt.new W1 hs _⟩
 simp only [XI.agg,ST.agg]
 go_enter func37,ntmps37
 go_upto_region 1 with fail
 refine wp_box (fun W1=>Hid (Fr No w W1∧CellsAt W1 w.heap.size 0 x.cells∧SAt W1 (w.heap.size+1) s)) (by exact HB.out _ _) ?_
 clear HB
 intro W1 HL
 obtain ⟨c0,c1,c2,c3,c4,c5,c6,c7,c8,c9,c10⟩:=XI.at HL.out.2.1
 have HE:=far_wrap next x.rel
 have e1:wrap64 x.rel=x.rel:=IntWalk.wrap64_in _ (by omega)
 have e2:IntKind.i64.wrap x.rel=x.rel:=IntWalk.i64_in _ (by omega)
 replace HE:=Lib.hid HE
 clear hr
 have HO:Hid (otherM x next s=if takenM x.cond s then next else farM next x.rel):=rfl
 cases ht:takenM x.cond s
 ·rw [ht] at HTK HO
  have HO2:Hid (otherM x next s=farM next x.rel):=HO.out
  clear ht HO
  go_wp2_with (first
   |(refine HL.out.2.2.load rfl (.tmp 5) rfl rfl ?_)
   |(go_at_call 71;(with_reducible refine (HTK.out _).mono ?_);rintro e2 w2 ⟨rfl,hf2⟩;replace HL:=Lib.hid (And.intro (HL.out.1.trans hf2) (And.intro (hf2.cells HL.out.2.1 id) (HL.out.2.2.fr hf2 id)));clear hf2;obtain ⟨c0,c1,c2,c3,c4,c5,c6,c7,c8,c9,c10⟩:=XI.at HL.out.2.1))
  go_ret
  exact ⟨(congrArg (fun z=>Ending.returned (Value.int .u64 z)) HE.out).trans (by rw [HO2.out]),HL.out.1⟩
 ·rw [ht] at HTK HO
  have HO2:Hid (otherM x next s=next):=HO.out
  clear ht HO
  go_wp2_with (first
   |(refine HL.out.2.2.load rfl (.tmp 5) rfl rfl ?_)
   |(go_at_call 71;(with_reducible refine (HTK.out _).mono ?_);rintro e2 w2 ⟨rfl,hf2⟩;replace HL:=Lib.hid (And.intro (HL.out.1.trans hf2) (And.intro (hf2.cells HL.out.2.1 id) (HL.out.2.2.fr hf2 id)));clear hf2))
  go_ret
  exact ⟨by rw [HO2.out];try rfl,HL.out.1⟩
theorem ownsRow_form{w:World}{base n size:Nat}{e:TypeId}{v:Value}{xs:List Value}(h:w.ownsRow base e size v n xs):∃a c,v= .slice a n c:=by
 rcases h.2 with ⟨rfl,rfl⟩|⟨g,cap,cur,rfl,_⟩
 ·exact ⟨none,0,rfl⟩
 ·exact ⟨_,cap,rfl⟩
theorem pcells_w{bw:Nat}{s:ST}(h:s.ok)(wv:Value):(pcells bw s wv)[22]? =some wv:=by
 unfold pcells
 rw [List.getElem?_cons_succ,List.getElem?_append_right (by rw [ST.cells_len h];decide),ST.cells_len h]
 rfl
theorem PathAt.waits{w0 w:World}{N bw mb pk bp:Nat}{ds:List MapD}{RL:RQ}{P:Nat→Prop}{q:PM}(h:PathAt w0 N bw mb ds pk RL bp P q w):∃a c,w.cell? ⟨bp,22,none⟩=some (.slice a q.waits.length c):=by
 obtain ⟨wv,hc,hr,hk⟩:=h.box
 obtain ⟨a,c,rfl⟩:=ownsRow_form hr
 have:=hc 22 _ (pcells_w h.ok _)
 exact ⟨a,c,this⟩
theorem back_no{x:XI}{q:PM}{t:TM}(h:x.kind≠13∨q.waits= []):backM x q t=(0,t):=if_pos h
theorem back_yes{x:XI}{q:PM}{t:TM}(h:x.kind=13)(hw:q.waits≠ []):backM x q t=((itemM t).1%(1+q.waits.length),(itemM t).2):=if_neg fun c=>c.elim (fun c=>c h) hw
theorem rem_i64(t:TypeId){a D M:Nat}(hD:D≠0)(h:a%D=M)(hM:M<9223372036854775808)(W:World):(binOp .rem t (.int .i64 (a:Int)) (.int .i64 (D:Int))).run prog W= .ok (.int .i64 (M:Int)) W:=by
 have r1:((D:Int)==0)=false:=by rw [beq_eq_false_iff_ne];omega
 have r3:IntKind.i64.wrap (M:Int)=(M:Int):=IntWalk.i64_in _ (by omega)
 have r4:(a:Int).tmod (D:Int)=(M:Int):=by rw [←h];rfl
 rw [binOp_rem]
 simp [Op.intDiv,hD,r1,r3,r4]
theorem back_any{w0 w:World}{N bw mb pk bp br bi bs window:Nat}{ds:List MapD}{RL:RQ}{P R K:Nat→Prop}{q:PM}{t:TM}{code script:List UInt8}(h:SpRun br bi bs code window script R K t w)(hp:PathAt w0 N bw mb ds pk RL bp P q w)(hPR:∀k,R k→¬P k)(hl:q.waits.length≤1000000)(x:XI)(hx:x.ok):
  Calls prog 40 #[.pointer (some ⟨br,0,none⟩),x.agg, .pointer (some ⟨bp,0,none⟩)] w fun e w'=>e= .returned (.int .i64 (backM x q t).1)∧Hid (SpRun br bi bs code window script R K (backM x q t).2 w')∧Hid (Fr (fun k=>k=bi) w w'):=by
 obtain ⟨a,c,hw⟩:=hp.waits
 have hbp:bp≠bi:=fun e=>hPR _ h.own.2.1 (e ▸ hp.own)
 have HB:Hid (∀t1,Fr No w (w.alloc (.cells x.cells.toArray t1))∧CellsAt (w.alloc (.cells x.cells.toArray t1)) w.heap.size 0 x.cells):=fun t1=>⟨fr_alloc _ _,CellsAt.new w _ _⟩
 have HS:=Lib.hid h
 simp only [XI.agg]
 by_cases h13:x.kind=13
 ·by_cases hn:q.waits= []
  ·rw [back_no (.inr hn)]
   rw [hn] at hw
   have q1:(x.kind !=(13:Int))=false:=by rw [h13];rfl
   clear h hp hPR hx hl hn h13
   go_enter func40,ntmps40
   go_upto_region 1 with fail
   refine wp_box (fun W1=>Hid (Fr No w W1∧CellsAt W1 w.heap.size 0 x.cells)) (by exact HB.out _) ?_
   clear HB
   intro W1 HL
   obtain ⟨c0,c1,c2,c3,c4,c5,c6,c7,c8,c9,c10⟩:=XI.at HL.out.2
   replace hw:=HL.out.1.cell hw id
   simp only [List.length_nil] at hw
   go_wp2_with fail
   go_ret
   exact ⟨rfl,Lib.hid (HS.out.no HL.out.1),Lib.hid HL.out.1.any⟩
  ·rw [back_yes h13 hn]
   have q1:(x.kind !=(13:Int))=false:=by rw [h13];rfl
   have hpos:0<q.waits.length:=List.length_pos_iff.2 hn
   have q2:((q.waits.length:Int)==0)=false:=by rw [beq_eq_false_iff_ne];omega
   have HI:Hid (∀W,SpRun br bi bs code window script R K t W→_):=fun W hW=>item_any hW
   have hlt:(itemM t).1<256:=by
    unfold itemM;split
    ·exact (by decide:0<256)
    ·exact UInt8.toNat_lt _
   generalize itemM t=it at*
   generalize q.waits.length=L at*
   obtain ⟨D,hD⟩:∃D,1+L=D:=⟨_,rfl⟩
   rw [hD]
   have ew:wrap64 (1+(L:Int))=(D:Int):=by rw [IntWalk.wrap64_in _ (by omega)];omega
   have hDp:D≠0:=by omega
   have hDi:(D:Int)≠0:=by omega
   have hle:=Nat.mod_le it.1 D
   obtain ⟨M,hM⟩:∃M,it.1%D=M:=⟨_,rfl⟩
   rw [hM] at hle ⊢
   have ew2:IntKind.i64.wrap (1+(L:Int))=(D:Int):=by rw [IntWalk.i64_in _ (by omega)];omega
   have rr:=rem_i64 3 hDp hM (by omega)
   have r2:wrap64 (M:Int)=(M:Int):=IntWalk.wrap64_in _ (by omega)
   have r3:IntKind.i64.wrap (M:Int)=(M:Int):=IntWalk.i64_in _ (by omega)
   have r4:(it.1:Int).tmod (D:Int)=(M:Int):=by rw [←hM];rfl
   have hit:(it.1:Int)=((it.1:Nat):Int):=rfl
   clear h hp hPR hx hn h13 hD hM hle hit
   go_enter func40,ntmps40
   go_upto_region 1 with fail
   refine wp_box (fun W1=>Hid (Fr No w W1∧CellsAt W1 w.heap.size 0 x.cells)) (by exact HB.out _) ?_
   clear HB
   intro W1 HL
   obtain ⟨c0,c1,c2,c3,c4,c5,c6,c7,c8,c9,c10⟩:=XI.at HL.out.2
   replace hw:=HL.out.1.cell hw id
   replace HS:=Lib.hid (HS.out.no HL.out.1)
   go_upto_region 3 with fail
   have hc2:=HS.out.c2
   have HKP:Hid (∀W,Fr (fun k=>k=bi) W1 W→W.cell? ⟨br,2,none⟩=some (.func (.func 34) #[] #[.pointer (some ⟨bi,0,none⟩), .pointer (some ⟨bs,0,none⟩)])∧W.cell? ⟨bp,22,none⟩=some (.slice a L c)∧Hid (Fr (fun k=>k=bi) W1 W)):=fun W hW=>⟨hW.cell hc2 HS.out.own.2.2,hW.cell hw hbp,hW⟩
   have hS0:=HKP.out _ (Fr.refl (fun k=>k=bi) W1).drew
   clear hc2 hw c0 c1 c2 c3 c4 c5 c6 c7 c8 c9 c10
   go_region_held3 (fun W=>W.cell? ⟨br,2,none⟩=some (.func (.func 34) #[] #[.pointer (some ⟨bi,0,none⟩), .pointer (some ⟨bs,0,none⟩)])∧W.cell? ⟨bp,22,none⟩=some (.slice a L c)∧Hid (Fr (fun k=>k=bi) W1 W))
    (first|assumption|exact HKP.out _ ((Fr.refl (fun k=>k=bi) W1).drew.trans (by assumption)))
    (first|(go_at_call 34;(with_reducible refine (HI.out _ (HS.out.no (Fr.refl No W1).drew)).mono ?_);rintro e2 w2 ⟨rfl,HS2,hf2⟩;replace hf2:=hf2.out)|fail)
   go_wp2_with fail
   go_ret
   exact ⟨rfl,HS2,Lib.hid (HL.out.1.any.trans ((Fr.refl (fun k=>k=bi) W1).drew.trans hf2))⟩
 ·rw [back_no (.inl h13)]
  have q1:(x.kind !=(13:Int))=true:=by rw [bne_iff_ne];exact h13
  clear h hp hPR hx hl h13
  go_enter func40,ntmps40
  go_upto_region 1 with fail
  refine wp_box (fun W1=>Hid (Fr No w W1∧CellsAt W1 w.heap.size 0 x.cells)) (by exact HB.out _) ?_
  clear HB
  intro W1 HL
  obtain ⟨c0,c1,c2,c3,c4,c5,c6,c7,c8,c9,c10⟩:=XI.at HL.out.2
  go_wp2_with fail
  go_ret
  exact ⟨rfl,Lib.hid (HS.out.no HL.out.1),Lib.hid HL.out.1.any⟩
theorem Tryz.info_u64t:(prog.info? 37).map (fun i=>(i.zero,i.size,i.bytes))=some (some (.int .u64 0),1,8):=by kernel_rfl
theorem SpRun.told{W w7:World}{br bi bs window:Nat}{code script:List UInt8}{R K:Nat→Prop}{t:TM}(h:SpRun br bi bs code window script R K t W){tv:Value}(htv:W.cell? ⟨br,3,none⟩=some tv){a g cap:Nat}
  (hown:w7.ownsRow 0 37 1 (.slice (some ⟨g,0,none⟩) (t.tr.length+1) cap) (t.tr.length+1) (u64L t.tr++ [.int .u64 (a:Int)])) (hg:W.grownBy w7 tv.ownBlock) (hat:tv.ownBlock=some g∨g=W.heap.size) (hlt:g<w7.heap.size):
  SpRun br bi bs code window script (fun k=>R k∨k=g) K {t with tr:=t.tr++ [a]} (w7.setCell ⟨br,3,none⟩ (.slice (some ⟨g,0,none⟩) (t.tr.length+1) cap))∧Fr R W (w7.setCell ⟨br,3,none⟩ (.slice (some ⟨g,0,none⟩) (t.tr.length+1) cap))∧∀k,(R k∨k=g)→R k∨(W.heap.size≤k∧k<w7.heap.size):=by
 obtain ⟨tv',t1,t2,t3⟩:=h.row
 obtain rfl:tv=tv':=Option.some.inj (htv.symm.trans t1)
 have fg:Fr (OwnOf tv) W w7:=grown_fr hg
 obtain ⟨W8,hW8⟩:∃W8,W8=w7.setCell ⟨br,3,none⟩ (.slice (some ⟨g,0,none⟩) (t.tr.length+1) cap):=⟨_,rfl⟩
 have f8:Fr (fun k=>k=br) w7 W8:=by rw [hW8];exact (Fr.refl (fun k=>k=br) w7).setCell (p:=⟨br,3,none⟩) (.inr rfl) _
 have nbr:¬OwnOf tv br:=fun hk=>(t3 _ hk).2.1 rfl
 have nbi:¬OwnOf tv bi:=fun hk=>(t3 _ hk).2.2 rfl
 have hgb:g≠br∧g≠bi:=by
  rcases hat with hk|rfl
  ·exact (t3 _ hk).2
  ·have:=h.lt;omega
 have hK:∀k,K k→¬OwnOf tv k∧k≠br:=fun k hk=>⟨fun ho=>h.apart _ (t3 _ ho).1 hk,fun e=>h.apart _ h.own.1 (e ▸ hk)⟩
 have cs:∀j v,j≠3→W.cell? ⟨br,j,none⟩=some v→W8.cell? ⟨br,j,none⟩=some v:=fun j v hj hc=>by
  rw [hW8,World.cell?_setCell_other _ _ _ _ (by intro e;simp only [Addr.mk.injEq] at e;omega)]
  exact fg.cell hc nbr
 obtain ⟨k,k1,k2⟩:=h.at_
 obtain ⟨v,v1,v2⟩:=h.scr
 have hK1:=hK _ h.keep
 rw [←hW8]
 refine ⟨⟨cs 0 _ (by decide) h.c0,cs 1 _ (by decide) h.c1,cs 2 _ (by decide) h.c2,⟨.slice (some ⟨g,0,none⟩) (t.tr.length+1) cap,?_,?_,?_⟩,cs 4 _ (by decide) h.c4,?_,?_,⟨.inl h.own.1, .inl h.own.2.1,h.own.2.2⟩,⟨k,f8.cell (fg.cell k1 nbi) (fun e=>h.own.2.2 e.symm),k2⟩,⟨v,f8.cell (fg.cell v1 hK1.1) hK1.2,(v2.fr fg fun k hk=>(hK k hk).1).fr f8 fun k hk=>(hK k hk).2⟩,h.keep,?_,h.small,fun k hk=>Nat.lt_of_lt_of_le (Nat.lt_of_lt_of_le (h.klt k hk) fg.size) f8.size,?_⟩,?_,?_⟩
 ·rw [hW8];exact World.cell?_setCell_same _ _ _ (fg.cell htv nbr)
 ·show W8.ownsRow 0 _ 1 _ (t.tr++ [a]).length (u64L (t.tr++ [a]))
  rw [List.length_append,show u64L (t.tr++ [a])=u64L t.tr++ [.int .u64 (a:Int)] by unfold u64L;rw [List.map_append];rfl]
  exact ownsRow_fr hown f8 fun k hk=>by
   obtain rfl:g=k:=Option.some.inj hk
   exact hgb.1
 ·intro k hk
  obtain rfl:g=k:=Option.some.inj hk
  exact ⟨.inr rfl,hgb⟩
 ·intro j;rw [hW8,World.frozen?_setCell,cells_frozen fg h.lt.1 nbr];exact h.open_ j
 ·intro j;rw [hW8,World.frozen?_setCell,cells_frozen fg h.lt.2 nbi];exact h.openi j
 ·rintro k (hk|rfl) hkk
  ·exact h.apart k hk hkk
  ·rcases hat with ho|rfl
   ·exact (hK _ hkk).1 ho
   ·exact Nat.lt_irrefl _ (h.klt _ hkk)
 ·rintro k (hk|rfl)
  ·exact Nat.lt_of_lt_of_le (Nat.lt_of_lt_of_le (h.rlt k hk) fg.size) f8.size
  ·exact Nat.lt_of_lt_of_le hlt f8.size
 ·exact (fg.mono fun k _ hk=>(t3 k hk).1).trans (f8.mono fun k _ hk=>by rw [hk];exact h.own.1)
 ·rintro k (hk|rfl)
  ·exact .inl hk
  ·rcases hat with ho|rfl
   ·exact .inl (t3 _ ho).1
   ·exact .inr ⟨Nat.le_refl _,hlt⟩
theorem two_boxes(w:World)(x:XI){s:ST}(hs:s.ok)(t1 t2:TypeId):Fr No w ((w.alloc (.cells x.cells.toArray t1)).alloc (.cells s.cells.toArray t2))∧CellsAt ((w.alloc (.cells x.cells.toArray t1)).alloc (.cells s.cells.toArray t2)) w.heap.size 0 x.cells∧SAt ((w.alloc (.cells x.cells.toArray t1)).alloc (.cells s.cells.toArray t2)) (w.heap.size+1) s:=by
 obtain ⟨W1,hW1⟩:∃W1,W1=w.alloc (.cells x.cells.toArray t1):=⟨_,rfl⟩
 have z1:W1.heap.size=w.heap.size+1:=by rw [hW1,size_alloc]
 have f1:Fr No w W1:=by rw [hW1];exact fr_alloc _ _
 have c1:CellsAt W1 w.heap.size 0 x.cells:=by rw [hW1];exact CellsAt.new w _ _
 rw [←hW1]
 exact ⟨f1.trans (fr_alloc _ _),(fr_alloc _ _:Fr No W1 _).cells c1 id,by rw [←z1];exact SAt.new W1 hs _⟩
theorem tell_any{w0 w:World}{br bi bs window:Nat}{code script:List UInt8}{R K:Nat→Prop}{t:TM}(h:SpRun br bi bs code window script R K t w)(hm:MachAt w0)(hf0:Fr No w0 w)(hR0:∀k,R k→w0.heap.size≤k)(x:XI)(s:ST)(hx:x.ok)(hs:s.ok)(hl:t.tr.length+2≤1000000):
  Calls prog 17 #[.pointer (some ⟨br,0,none⟩),x.agg,s.agg] w fun e w'=>e= .returned (.tuple #[])∧∃R',Hid (SpRun br bi bs code window script R' K (tellM x s t) w')∧Hid (∀k,R' k→R k∨w.heap.size≤k)∧Hid (Fr R w w'):=by
 obtain ⟨i0,hi0,hz0,hz1,hz2⟩:=info_parts Tryz.info_u64t
 have HB:Hid (∀t1 t2,_):=fun t1 t2=>two_boxes w x hs t1 t2
 have HH:=Lib.hid h
 have HF0:=Lib.hid hf0
 have HR0:=Lib.hid hR0
 have HM:=Lib.hid hm
 clear h hf0 hR0 hm
 simp only [XI.agg,ST.agg]
 go_enter func17,ntmps17
 go_upto_region 1 with fail
 refine wp_box (fun W1=>Hid (Fr No w W1∧CellsAt W1 w.heap.size 0 x.cells∧SAt W1 (w.heap.size+1) s)) (by exact HB.out _ _) ?_
 clear HB
 intro W1 HL
 have HS:=Lib.hid (HH.out.no HL.out.1)
 obtain ⟨tv,t1,t2,t3⟩:=HS.out.row
 obtain ⟨ta,tc,rfl⟩:=ownsRow_form t2
 have c20:=HL.out.2.2.at.2.2.2.2
 have HOWN:Hid (∀W,Fr No W1 W→W.ownsRow 0 37 1 (.slice ta t.tr.length tc) t.tr.length (u64L t.tr)):=fun W hW=>ownsRow_fr t2 hW (fun _ _=>id)
 have HQ5:Hid (∀(W w5:World),Fr No W1 W→W.grownBy w5 (Value.slice ta t.tr.length tc).ownBlock→w5.cell? ⟨br,3,none⟩=some (.slice ta t.tr.length tc)∧w5.frozen? ⟨br,3,none⟩=false):=fun W w5 f hg=>by
  have hnb:¬OwnOf (.slice ta t.tr.length tc) br:=fun hb=>(t3 br hb).2.1 rfl
  have c3:=f.cell t1 id
  exact ⟨(grown_fr hg).cell c3 hnb,by rw [(grown_fr hg).frozen c3 hnb,f.frozen t1 id];exact HS.out.open_ 3⟩
 have HST:Hid (∀(W w7:World) (g cap:Nat),Fr No W1 W→W.heap.size=W1.heap.size+1→w7.ownsRow 0 37 1 (.slice (some ⟨g,0,none⟩) (t.tr.length+1) cap) (t.tr.length+1) (u64L t.tr++ [.int .u64 (s.pc:Int)])→W.grownBy w7 (Value.slice ta t.tr.length tc).ownBlock→((Value.slice ta t.tr.length tc).ownBlock=some g∨g=W1.heap.size+1)→g<w7.heap.size→
   SpRun br bi bs code window script (fun k=>R k∨k=g) K {t with tr:=t.tr++ [s.pc]} (w7.setCell ⟨br,3,none⟩ (.slice (some ⟨g,0,none⟩) (t.tr.length+1) cap))∧Fr R W1 (w7.setCell ⟨br,3,none⟩ (.slice (some ⟨g,0,none⟩) (t.tr.length+1) cap))∧∀k,(R k∨k=g)→R k∨W1.heap.size≤k):=fun W w7 g cap f z h1 h2 h3 h4=>by
  have q:=(HS.out.no f).told (f.cell t1 id) h1 h2 (by rw [z];exact h3) h4
  exact ⟨q.1,f.any.trans q.2.1,fun k hk=>(q.2.2 k hk).imp id fun y=>Nat.le_trans f.size y.1⟩
 have t1a:=fun o:Obj=>((Fr.refl No W1).alloc o).cell t1 id
 clear t2 t3
 go_region_law (first
  |(refine guard_append (.tmp 13) (.tmp 16) 33 ?_ ?_;rfl;refine step_append_lies _ (by rfl) (.tmp 13) (.tmp 16) 33 (by rfl) 0 37 i0 _ 1 8 underlying33 hi0 hz0 hz1 hz2 rfl (by decide) (.slice ta t.tr.length tc) t.tr.length (u64L t.tr) (by rfl) (by exact HOWN.out _ (by first|exact ((Fr.refl No W1).alloc _).drew|exact (Fr.refl No W1).drew.alloc _)) ⟨W1.heap.size,0,none⟩ 1 1 [.int .u64 (s.pc:Int)] (by rfl) (by rfl) (by exact World.news_of_block (cs:= #[.int .u64 (s.pc:Int)]) (t:=37) (fr:=(0,0)) (by first|exact heap_alloc_new _ _|(simp;done))) (by simp [Value.oneCell']) (by omega) (by unfold maxLen;omega) (by omega) (Nat.zero_le _) (W1.heap.size+1) (by simp) ?_;intro g2 cap2 w7 hown hgrow hat hlt2;have q5:=HQ5.out _ w7 (by first|exact ((Fr.refl No W1).alloc _).drew|exact (Fr.refl No W1).drew.alloc _) hgrow;have HE:=Lib.hid (HST.out _ w7 g2 cap2 (by first|exact ((Fr.refl No W1).alloc _).drew|exact (Fr.refl No W1).drew.alloc _) (by simp) hown hgrow hat hlt2);clear hown hgrow hat hlt2;obtain ⟨q5,q6⟩:=q5))
 all_goals
  clear t1 t1a c20 HOWN HQ5 HST q5 q6
  go_upto_region 2 with fail
  refine wp_box (fun W=>Hid (SpRun br bi bs code window script (fun k=>R k∨k=g2) K {t with tr:=t.tr++ [s.pc]} W∧Fr R W1 W∧∀k,(R k∨k=g2)→R k∨W1.heap.size≤k)) (by exact HE) ?_
  clear HE
  intro W2 HE
  have HL2:Hid (Fr No w0 W2∧Fr R w W2∧CellsAt W2 w.heap.size 0 x.cells∧SAt W2 (w.heap.size+1) s∧(∀k,(R k∨k=g2)→R k∨w.heap.size≤k)):=by
   have r0:¬R w.heap.size:=fun hk=>Nat.lt_irrefl _ (HH.out.rlt _ hk)
   have r1:¬R (w.heap.size+1):=fun hk=>by have:=HH.out.rlt _ hk;omega
   exact Lib.hid ⟨((HF0.out.any.trans HL.out.1.any).trans (HE.out.2.1.mono fun k _ hk=>HR0.out k hk):Fr (From w0) w0 W2).ours,HL.out.1.any.trans HE.out.2.1,HE.out.2.1.cells HL.out.2.1 r0,HL.out.2.2.fr HE.out.2.1 r1,fun k hk=>(HE.out.2.2 k hk).imp id fun h=>Nat.le_trans HL.out.1.size h⟩
  have HTC:Hid (Calls prog 36 #[.agg #[.int .i64 x.kind, .int .i64 x.alu, .int .i64 x.cond, .int .i64 x.size, .bool x.wide, .bool x.short, .int .i64 x.dst, .int .i64 x.src, .int .i32 x.disp, .int .i32 x.rel, .int .i64 x.imm], .agg s.cells.toArray] W2 fun e w'=>e= .returned (touV (touchM x s))∧Fr No W2 w'):=Lib.hid (touch_any x s W2 hx hs (HM.out.fr HL2.out.1))
  replace HE:=Lib.hid HE.out.1
  have HTL:Hid (tellM x s t={t with tr:=t.tr++s.pc::if 0<(touchM x s).2 then [(touchM x s).1] else []}):=Lib.hid rfl
  clear HL HF0 HR0 HM HH HS
  generalize touchM x s=tq at*
  obtain ⟨c0,c1,c2,c3,c4,c5,c6,c7,c8,c9,c10⟩:=XI.at HL2.out.2.2.1
  go_upto_region 3 with (first
   |(refine HL2.out.2.2.2.1.load rfl (.tmp 5) rfl rfl ?_)
   |(go_at_call 36;(with_reducible refine HTC.out.mono ?_);rintro e3 w3 ⟨rfl,hf3⟩;unfold touV))
  replace HE:=Lib.hid (HE.out.no hf3)
  have HF3:Hid (Fr R w w3):=Lib.hid (HL2.out.2.1.trans hf3.any)
  clear c0 c1 c2 c3 c4 c5 c6 c7 c8 c9 c10 HTC hf3
  by_cases hq:0<tq.2
  ·have q1:decide (tq.2>0)=true:=by simpa using hq
   have q2:decide (0<tq.2)=true:=by simpa using hq
   have HTL2:Hid (tellM x s t={t with tr:=(t.tr++ [s.pc])++ [tq.1]}):=by rw [HTL.out,if_pos hq];exact Lib.hid (by rw [List.append_assoc];rfl)
   clear HTL hq
   have hlen:(t.tr++ [s.pc]).length≤999999:=by rw [List.length_append];simp;omega
   generalize t.tr++ [s.pc]=T at*
   obtain ⟨tv,t1,t2,t3⟩:=HE.out.row
   obtain ⟨ta2,tc2,rfl⟩:=ownsRow_form t2
   simp only at t1 t2 t3
   have HOWN:Hid (∀W,Fr No w3 W→W.ownsRow 0 37 1 (.slice ta2 T.length tc2) T.length (u64L T)):=fun W hW=>ownsRow_fr t2 hW (fun _ _=>id)
   have HQ5:Hid (∀(W w5:World),Fr No w3 W→W.grownBy w5 (Value.slice ta2 T.length tc2).ownBlock→w5.cell? ⟨br,3,none⟩=some (.slice ta2 T.length tc2)∧w5.frozen? ⟨br,3,none⟩=false):=fun W w5 f hg=>by
    have hnb:¬OwnOf (.slice ta2 T.length tc2) br:=fun hb=>(t3 br hb).2.1 rfl
    have c3:=f.cell t1 id
    exact ⟨(grown_fr hg).cell c3 hnb,by rw [(grown_fr hg).frozen c3 hnb,f.frozen t1 id];exact HE.out.open_ 3⟩
   have HST:Hid (∀(W w7:World) (g cap:Nat),Fr No w3 W→W.heap.size=w3.heap.size+1→w7.ownsRow 0 37 1 (.slice (some ⟨g,0,none⟩) (T.length+1) cap) (T.length+1) (u64L T++ [.int .u64 (tq.1:Int)])→W.grownBy w7 (Value.slice ta2 T.length tc2).ownBlock→((Value.slice ta2 T.length tc2).ownBlock=some g∨g=w3.heap.size+1)→g<w7.heap.size→
     SpRun br bi bs code window script (fun k=>(R k∨k=g2)∨k=g) K {t with tr:=T++ [tq.1]} (w7.setCell ⟨br,3,none⟩ (.slice (some ⟨g,0,none⟩) (T.length+1) cap))∧Fr (fun k=>R k∨k=g2) w3 (w7.setCell ⟨br,3,none⟩ (.slice (some ⟨g,0,none⟩) (T.length+1) cap))∧∀k,((R k∨k=g2)∨k=g)→(R k∨k=g2)∨w3.heap.size≤k):=fun W w7 g cap f z h1 h2 h3 h4=>by
    have q:=(HE.out.no f).told (f.cell t1 id) h1 h2 (by rw [z];exact h3) h4
    exact ⟨q.1,f.any.trans q.2.1,fun k hk=>(q.2.2 k hk).imp id fun y=>Nat.le_trans f.size y.1⟩
   clear t2 t3
   go_wp2_with (at_builtin;refine wpList_append_lies _ rfl (.tmp 34) (.tmp 36) 33 rfl 0 37 i0 _ 1 8 underlying33 hi0 hz0 hz1 hz2 rfl (by decide) (.slice ta2 T.length tc2) T.length (u64L T) (by rfl) (by exact HOWN.out _ ((Fr.refl No w3).alloc _)) ⟨w3.heap.size,0,none⟩ 1 1 [.int .u64 (tq.1:Int)] (by rfl) (by rfl) (by exact World.news_of_block (cs:= #[.int .u64 (tq.1:Int)]) (t:=37) (fr:=(0,0)) (heap_alloc_new _ _)) (by simp [Value.oneCell']) (by omega) (by unfold maxLen;omega) (by omega) (Nat.zero_le _) (w3.heap.size+1) (by simp) ?_;intro g3 cap3 w8 hown hgrow hat hlt2;have q5:=HQ5.out _ w8 ((Fr.refl No w3).alloc _) hgrow;have HF:=Lib.hid (HST.out _ w8 g3 cap3 ((Fr.refl No w3).alloc _) (by simp) hown hgrow hat hlt2);clear hown hgrow hat hlt2;obtain ⟨q5,q6⟩:=q5)
   first|go_end0|refine bodyPost_ret (results_none rfl _ _ _) rfl ?_
   exact ⟨rfl,_,by rw [HTL2.out];exact Lib.hid HF.out.1,Lib.hid (fun k hk=>(HF.out.2.2 k hk).elim (HL2.out.2.2.2.2 k) fun h=> .inr (Nat.le_trans HF3.out.size h)),Lib.hid (((HF3.out.mono fun _ _ h=> .inl h).trans (HF.out.2.1.mono fun k _ h=>HL2.out.2.2.2.2 k h):Fr (fun k=>R k∨w.heap.size≤k) w _).mono fun k hk h=>h.resolve_right (by omega))⟩
  ·have q1:decide (tq.2>0)=false:=by simpa using hq
   have q2:decide (0<tq.2)=false:=by simpa using hq
   have HTL2:Hid (tellM x s t={t with tr:=t.tr++ [s.pc]}):=by rw [HTL.out,if_neg hq];exact Lib.hid rfl
   clear HTL hq
   go_wp2_with fail
   first|go_end0|refine bodyPost_ret (results_none rfl _ _ _) rfl ?_
   exact ⟨rfl,fun k=>R k∨k=g2,by rw [HTL2.out];exact HE,Lib.hid HL2.out.2.2.2.2,HF3⟩
end Go.Proofs.YtfmcmfiebehhiaaGreatDoor
namespace Go.Proofs.YtfmcmfiebehhiaaGreatDoor
open Go.Proofs.Tryz
open Go.RowKit
theorem pcells_s{bw:Nat}{s:ST}(h:s.ok)(wv:Value){j:Nat}(hj:j<21):(pcells bw s wv)[1+j]? =s.cells[j]? :=by
 unfold pcells
 rw [Nat.add_comm,List.getElem?_cons_succ,List.getElem?_append_left (by rw [ST.cells_len h];exact hj)]
theorem list21{α:Type}:∀(l:List α),l.length=21→∃v0 v1 v2 v3 v4 v5 v6 v7 v8 v9 v10 v11 v12 v13 v14 v15 v16 v17 v18 v19 v20,l= [v0,v1,v2,v3,v4,v5,v6,v7,v8,v9,v10,v11,v12,v13,v14,v15,v16,v17,v18,v19,v20]
 | [v0,v1,v2,v3,v4,v5,v6,v7,v8,v9,v10,v11,v12,v13,v14,v15,v16,v17,v18,v19,v20],_=>⟨_,_,_,_,_,_,_,_,_,_,_,_,_,_,_,_,_,_,_,_,_,rfl⟩
theorem do_nil{P:Program}{A:Act}{W:World}{x:Operand}{p:Addr}{d:Option Tmp}{ty:TypeId}{pos:String}{af:Array Edge}{g:Option (Nat×Bool)}(hx:A.eval x= .pointer (some p)):(execOp A.eval ⟨d, .nilCheck x,ty,pos,af,g⟩).run P W= .ok (.value (.pointer (some p))) W:=by
 simp only [execOp,hx]
 simp [go_sem]
theorem do_extract{P:Program}{A:Act}{W:World}{x:Operand}{vs:Array Value}{k:Nat}{v:Value}{d:Option Tmp}{ty:TypeId}{pos:String}{af:Array Edge}{g:Option (Nat×Bool)}(hx:A.eval x= .tuple vs)(hv:vs[k]? =some v):(execOp A.eval ⟨d, .extract x k,ty,pos,af,g⟩).run P W= .ok (.value v) W:=by
 simp only [execOp,hx]
 simp [go_sem,hv]
theorem pre_made1{ops:Array Oper}{C:List (Option Value)}{h:Nat→Option Value}{a:Act}{i:Nat}(hpre:∀k∈preOf ops i,Filled ops C h a k)(k d:Nat)(hk:(preOf ops i).contains k=true)(hd:dstOf ops k=some d)(hc:C.getD k none=none):∃v,h k=some v∧a.eval (.tmp d)=v:=by
 obtain ⟨v,h1,h2⟩:=(hpre k (by simpa using hk)).made hd hc
 exact ⟨v,h1,evalT h2⟩
theorem do_call{P:Program}{A:Act}{W:World}{o:Oper}{K:Act→World→Prop}{Q:Exit→Act→World→Prop}{f:FuncId}{args:Array Value}(hrun:(execOp A.eval o).run P W= .ok (.enter f args) W)(hc:Calls P f args W fun e w'=>∃v,e= .returned v∧K (A.put o.dst v) w'):Oper.wp P o A W K Q:=by
 unfold Oper.wp
 rw [hrun,Oper.upon_enter]
 refine hc.mono fun e w' hh=> ?_
 obtain ⟨v,rfl,hk⟩:=hh
 exact hk
theorem XB.step{w:World}{b:Nat}{x:XI}(hS:XB w b x){ops:Array Oper}{o:Oper}{a:Act}{K:Act→World→Prop}{Q:Exit→Act→World→Prop}{E:Prop}(hgd:o.guard=none)(px:Operand)(ho:o.op= .load 48 px)
  (hx:a.eval px= .pointer (some ⟨b,0,none⟩)) (k:K (a.put o.dst x.agg) w):if Region.wanted o (yielded ops a.tmps)=true then Oper.wp prog o a w K Q else E:=by
 rw [if_pos (by simp [Region.wanted,hgd])]
 exact wp_load_mid 48 px ho b 0 hx x.cells _ hS.cells underlying48 rfl (XI.info x) k
section
variable {w0 w:World} {N bw mb pk bp:Nat} {ds:List MapD} {RL:RQ} {P:Nat→Prop} {q:PM}
theorem PathAt.world0(h:PathAt w0 N bw mb ds pk RL bp P q w):w.cell? ⟨bp,0,none⟩=some (.pointer (some ⟨bw,0,none⟩)):=by
 obtain ⟨wv,hc,_⟩:=h.box
 exact hc 0 _ rfl
theorem PathAt.cellsS(h:PathAt w0 N bw mb ds pk RL bp P q w):CellsAt w bp 1 q.s.cells:=by
 obtain ⟨wv,hc,_⟩:=h.box
 intro j v hj
 have hl:j<21:=by rw [←ST.cells_len h.ok];exact (List.getElem?_eq_some_iff.1 hj).1
 have:=hc (1+j) v (by rw [pcells_s h.ok wv hl];exact hj)
 rwa [Nat.zero_add] at this
theorem PathAt.pc(h:PathAt w0 N bw mb ds pk RL bp P q w):w.cell? ⟨bp,21,none⟩=some (.int .u64 q.s.pc):=h.cellsS 20 _ (ST.cells_hi h.ok).2.2.2.2
theorem PathAt.there(h:PathAt w0 N bw mb ds pk RL bp P q w):w.there bp 1 21:=fun j hj=>by
 refine ⟨?_,h.open_ _⟩
 have hl:=ST.cells_len h.ok
 rw [h.cellsS j _ (List.getElem?_eq_getElem (show j<q.s.cells.length by rw [hl];exact hj))]
 rfl
theorem PathAt.loadS(h:PathAt w0 N bw mb ds pk RL bp P q w){ops:Array Oper}{rest:List Oper}{op:Oper}{a:Act}{Q:Exit→Act→World→Prop}(hgd:op.guard=none)(x:Operand)(ho:op.op= .load 68 x)
  (hx:a.eval x= .pointer (some ⟨bp,1,none⟩)) (k:wpList prog ops Q rest (a.put op.dst (.agg q.s.cells.toArray)) w):wpList prog ops Q (op::rest) a w:=
 wpList_load_mid hgd 68 x ho bp 1 hx q.s.cells _ h.cellsS underlying68 rfl (ST.info h.ok) k
theorem PathAt.setS(h:PathAt w0 N bw mb ds pk RL bp P q w){t:ST}(ht:t.ok):PathAt w0 N bw mb ds pk RL bp P {q with s:=t} (w.setCells bp 1 t.cells):=by
 have hf:Fr (fun k=>k=bp) w (w.setCells bp 1 t.cells):=(Fr.refl (fun k=>k=bp) w).setCells (.inr rfl) 1 _
 have hl:=ST.cells_len ht
 obtain ⟨wv,hc,hr,hk⟩:=h.box
 have ho:=h.apart _ h.own
 refine ⟨h.wm.apart hf (fun k hk=>by rw [hk];exact ho.1) (fun k hk=>by rw [hk];exact ho.2),ht,h.mok,⟨wv,?_,ownsRow_fr hr hf (fun k hq=>(hk k hq).2),hk⟩,fun j=>by rw [World.frozen?_setCells];exact h.open_ j,h.own,h.apart,h.qlo,h.lens,fun k hk=>Nat.lt_of_lt_of_le (h.plt k hk) hf.size⟩
 intro j v hj
 rw [Nat.zero_add]
 by_cases h0:j=0
 ·subst h0
  rw [World.cell?_setCells_out bp _ 1 w _ (fun _ _=> .inl (show 0<1 by decide))]
  rw [show v= .pointer (some ⟨bw,0,none⟩) from (Option.some.inj hj).symm]
  exact h.world0
 ·by_cases h22:j<22
  ·obtain ⟨i,rfl⟩:∃i,j=1+i:=⟨j-1,by omega⟩
   have hj2:t.cells[i]? =some v:=by rw [←pcells_s ht wv (by omega)];exact hj
   exact World.rangeAt_setCells_same w bp 1 t.cells (by rw [hl];exact h.there) i v hj2
  ·have e:j=22:=by
    have:=(List.getElem?_eq_some_iff.1 hj).1
    rw [pcells_len ht] at this;omega
   subst e
   rw [World.cell?_setCells_out bp _ 1 w _ (fun _ _=> .inr (by rw [hl];show 1+21≤22;decide))]
   have hv:=hc 22 _ (pcells_w h.ok _)
   rw [Nat.zero_add] at hv
   rw [hv,←pcells_w ht wv]
   exact hj
theorem PathAt.storeS(h:PathAt w0 N bw mb ds pk RL bp P q w){t:ST}(ht:t.ok){ops:Array Oper}{rest:List Oper}{op:Oper}{c:Act}{Q:Exit→Act→World→Prop}(hgd:op.guard=none)(px py:Operand)(ho:op.op= .store 68 px py)
  (hx:c.eval px= .pointer (some ⟨bp,1,none⟩)) (hy:c.eval py= .agg t.cells.toArray) (k:∀W',PathAt w0 N bw mb ds pk RL bp P {q with s:=t} W'→Fr (fun k=>k=bp) w W'→wpList prog ops Q rest (c.put op.dst undef) W'):wpList prog ops Q (op::rest) c w:=
 wpList_store_mid hgd 68 px py ho bp 1 t.cells.toArray hx hy (by rw [List.size_toArray,ST.cells_len ht];exact h.there) (by rw [List.size_toArray];exact ST.info ht) (all_oneCell_toArray cells_one)
  (k _ (h.setS ht) ((Fr.refl (fun k=>k=bp) w).setCells (.inr rfl) 1 _))
theorem PathAt.setW(h:PathAt w0 N bw mb ds pk RL bp P q w){w7:World}{X:Nat→Prop}(hf:Fr X w w7)(hX:∀k,X k→Out w0 N RL k∧k≠bp){l:List (Nat×List UInt8)}{v:Value}(hr:w7.ownsRow 0 119 2 v l.length (wflat l))(hv:∀k,v.ownBlock=some k→Out w0 N RL k∧k≠bp∧k<w7.heap.size)(hl:∀x∈l,x.1<18446744073709551616∧x.2.length≤140737488355328):
  PathAt w0 N bw mb ds pk RL bp (fun k=>k=bp∨v.ownBlock=some k) {q with waits:=l} (w7.setCell ⟨bp,22,none⟩ v):=by
 have f8:Fr (fun k=>k=bp) w7 (w7.setCell ⟨bp,22,none⟩ v):=(Fr.refl (fun k=>k=bp) w7).setCell (p:=⟨bp,22,none⟩) (.inr rfl) _
 have ho:=h.apart _ h.own
 obtain ⟨wv,hc,_,_⟩:=h.box
 have nb:¬X bp:=fun hx=>(hX _ hx).2 rfl
 have hw7:=h.wm.apart hf (fun k hk=>(hX k hk).1.1) (fun k hk=>(hX k hk).1.2)
 refine ⟨hw7.apart f8 (fun k hk=>by rw [hk];exact ho.1) (fun k hk=>by rw [hk];exact ho.2),h.ok,h.mok,⟨v,?_,ownsRow_fr hr f8 (fun k hk=>(hv k hk).2.1),fun k hk=>⟨.inr hk,(hv k hk).2.1⟩⟩,fun j=>by rw [World.frozen?_setCell,cells_frozen hf h.lt nb];exact h.open_ j, .inl rfl,?_,h.qlo,hl,?_⟩
 ·intro j u hj
  rw [Nat.zero_add]
  by_cases h22:j=22
  ·subst h22
   rw [pcells_w h.ok] at hj
   obtain rfl:=Option.some.inj hj
   have:=hc 22 _ (pcells_w h.ok _)
   rw [Nat.zero_add] at this
   exact World.cell?_setCell_same _ _ _ (hf.cell this nb)
  ·rw [World.cell?_setCell_other _ _ _ _ (by intro e;simp only [Addr.mk.injEq] at e;omega)]
   have hj2:(pcells bw q.s wv)[j]? =some u:=by
    have hlt:=(List.getElem?_eq_some_iff.1 hj).1
    rw [pcells_len h.ok] at hlt
    cases j with
    |zero=>exact hj
    |succ i=>
     rw [Nat.add_comm i 1,pcells_s h.ok _ (by omega)] at hj ⊢
     exact hj
   have:=hc j u hj2
   rw [Nat.zero_add] at this
   exact hf.cell this nb
 ·rintro k (rfl|hk)
  ·exact ho
  ·exact (hv k hk).1
 ·rintro k (rfl|hk)
  ·exact Nat.lt_of_lt_of_le (Nat.lt_of_lt_of_le h.lt hf.size) f8.size
  ·exact Nat.lt_of_lt_of_le (hv k hk).2.2 f8.size
end
end Go.Proofs.YtfmcmfiebehhiaaGreatDoor

