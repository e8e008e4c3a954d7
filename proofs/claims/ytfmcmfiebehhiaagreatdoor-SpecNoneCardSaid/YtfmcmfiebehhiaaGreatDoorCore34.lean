/- copy onto a row of its own, of elements of more cells than one. package spec: branch. package spec: a run and a path side by side. -/
import Derived.Test.YtfmcmfiebehhiaaGreatDoorCore33
import Derived.Laws.CopyOwn
import Derived.Deep.CutRange
set_option linter.all false
set_option linter.unusedVariables false
set_option linter.unusedSimpArgs false
set_option maxRecDepth 100000
set_option maxHeartbeats 4000000
namespace Go.Proofs.YtfmcmfiebehhiaaGreatDoor
open Go.Proofs.Tryz
open Go.RowKit
theorem run_copy_rowN{P:Program}(w:World)(dT sT ty elem:TypeId)(g dLen dCap size m:Nat)(a:Addr)(sLen sCap:Nat)(cur:Array Value)(t:TypeId)(cs:List Value)
  (hu:P.underlying dT=some (.slice elem)) (hs:(P.info? elem).map (·.size)=some size)
  (hg:w.heap[g]? =some (.cells cur t (0,0))) (hm:Nat.min sLen dLen=m) (hn:cs.length=m*size)
  (hsrc:∀j v,cs[j]? =some v→w.cell? (a.add j)=some v) (hfit:cs.length≤cur.size) (h1:∀v∈cs,v.oneCell'=true):
  (Builtin.copy_ #[dT,sT] ty #[.slice (some ⟨g,0,none⟩) dLen dCap, .slice (some a) sLen sCap]).run P w=
   .ok (goInt m) (w.setRow g (cs++cur.toList.drop cs.length).toArray):=by
 have hl:=run_loadCells_list (P:=P) w a cs hsrc
 have hst:=run_storeCells_at P g 0 t cs 0 cur w hg (by simpa using hfit) h1
 cases hq:P.info? elem with
 |none=>simp [hq] at hs
 |some i=>
  have hi:i.size=size:=by simpa [hq] using hs
  simp only [List.take_zero,List.nil_append,Nat.zero_add] at hst
  simp [Builtin.copy_,run_underlying hu,Builtin.lenOf,Builtin.firstCells,sizeOf,typeInfo,hq,hi,hm,←hn,hl,hst]
theorem run_copy_noneN{P:Program}(w:World)(dT sT ty elem:TypeId)(d a:Option Addr)(dLen dCap sLen sCap size:Nat)(hu:P.underlying dT=some (.slice elem))(hs:(P.info? elem).map (·.size)=some size)(hn:Nat.min sLen dLen=0):
  (Builtin.copy_ #[dT,sT] ty #[.slice d dLen dCap, .slice a sLen sCap]).run P w= .ok (goInt 0) w:=by
 cases hq:P.info? elem with
 |none=>simp [hq] at hs
 |some i=>
  have hl:∀(x:Addr),(loadCells x 0).run P w= .ok #[] w:=fun x=>by simpa using run_loadCells_list (P:=P) w x [] (by simp)
  cases d<;>cases a<;>simp [Builtin.copy_,run_underlying hu,Builtin.lenOf,Builtin.firstCells,sizeOf,typeInfo,hq,hn,storeCells,hl]
theorem fr_setRow(w:World)(g:Nat)(cs:Array Value):Fr (fun k=>k=g) w (w.setRow g cs):=⟨rfl,rfl,rfl,by simp,fun k _ hk=>setRow_other w g k cs hk⟩
theorem wpList_copyN{P:Program}{w:World}{ops:Array Oper}{rest:List Oper}{o:Oper}{a:Act}{Q:Exit→Act→World→Prop}(hgd:o.guard=none)(d s:Operand)(dT sT:TypeId)
  (ho:o.op= .call {callee:= .builtin .copy,args:= #[d,s],argTypes:= #[dT,sT]}) (elem:TypeId) (size:Nat) (hu:P.underlying dT=some (.slice elem)) (hsz:(P.info? elem).map (·.size)=some size)
  (g dLen dCap:Nat) (sp:Option Addr) (sLen sCap m:Nat) (hd:a.eval d= .slice (some ⟨g,0,none⟩) dLen dCap) (hs:a.eval s= .slice sp sLen sCap)
  (cur:Array Value) (t:TypeId) (hg:w.heap[g]? =some (.cells cur t (0,0))) (hm:Nat.min sLen dLen=m) (cs:List Value) (hn:cs.length=m*size)
  (hpos:0<m→∃ad,sp=some ad∧∀j v,cs[j]? =some v→w.cell? (ad.add j)=some v) (hfit:cs.length≤cur.size) (h1:∀v∈cs,v.oneCell'=true)
  (h:∀w',w'.heap[g]? =some (.cells (cs++cur.toList.drop cs.length).toArray t (0,0))→Fr (fun k=>k=g) w w'→wpList P ops Q rest (a.put o.dst (goInt m)) w'):wpList P ops Q (o::rest) a w:=by
 refine wpList_plain hgd fun K hK=> ?_
 by_cases h0:m=0
 ·subst h0
  obtain rfl:cs= []:=List.eq_nil_of_length_eq_zero (by omega)
  have hrun:=run_copy_noneN (P:=P) w dT sT o.type elem (some ⟨g,0,none⟩) sp dLen dCap sLen sCap size hu hsz hm
  unfold Oper.wp
  simp [execOp,ho,resolve,invoke,builtin,hd,hs,hrun,Result.andThen]
  exact hK _ _ (h w (by simpa using hg) (Fr.refl _ w))
 ·obtain ⟨ad,rfl,hsrc⟩:=hpos (by omega)
  have hrun:=run_copy_rowN (P:=P) w dT sT o.type elem g dLen dCap size m ad sLen sCap cur t cs hu hsz hg hm hn hsrc hfit h1
  unfold Oper.wp
  simp only [execOp,ho,resolve,invoke,builtin,Sem.run_bind,Sem.run_pure,Result.andThen_ok,List.map_toArray,List.map_cons,List.map_nil,hd,hs,hrun]
  exact hK _ _ (h _ (setRow_heap w g _ _ t _ hg) (fr_setRow w g _))
theorem make_sto(n:Nat)(hn:n≤1000000)(w:World):∃cur:Array Value,cur.size=n*2∧(Instr.makeSlice 72 (.int .i64 n) (.int .i64 n)).run prog w= .ok (.slice (some ⟨w.heap.size,0,none⟩) n n) (w.alloc (.cells cur 119)):=by
 obtain ⟨i0,hi,hz0,hz1,hz2⟩:=info_parts Tryz.info_sto
 have h:=run_make (P:=prog) w 72 119 i0 (.agg #[.int .u64 0, .string ⟨#[]⟩]) underlying72 hi hz0 .i64 .i64 n n (by omega) (by omega) (by rw [hz2];omega) (by omega)
 refine ⟨_,?_,h⟩
 rw [hz1]
 simp [madeCells]
theorem wflat_len:∀l:List (Nat×List UInt8),(wflat l).length=l.length*2
 | []=>rfl
 |_::l=>by
  have:=wflat_len l
  unfold wflat at this ⊢
  rw [List.flatMap_cons,List.length_append,this,List.length_cons]
  simp
  omega
theorem wflat_one(l:List (Nat×List UInt8)):∀v∈wflat l,v.oneCell'=true:=fun v hv=>by
 unfold wflat at hv
 obtain ⟨q,_,hq⟩:=List.mem_flatMap.1 hv
 simp only [List.mem_cons,List.not_mem_nil,or_false] at hq
 rcases hq with rfl|rfl<;>rfl
theorem do_val{P:Program}{A:Act}{W:World}{o:Oper}{v:Value}{K:Act→World→Prop}{Q:Exit→Act→World→Prop}(hrun:(execOp A.eval o).run P W= .ok (.value v) W)(hk:K (A.put o.dst v) W):Oper.wp P o A W K Q:=by
 unfold Oper.wp
 rw [hrun]
 exact hk
theorem do_build{P:Program}{A:Act}{W:World}{t:TypeId}{parts:Array (Nat×Operand)}{d:Option Tmp}{ty:TypeId}{pos:String}{af:Array Edge}{g:Option (Nat×Bool)}{vs:Array (Nat×Value)}{cells:Array Value}(he:parts.map (fun (i,x)=>(i,A.eval x))=vs)(hc:P.built t vs.toList=some cells):(execOp A.eval ⟨d, .build t parts,ty,pos,af,g⟩).run P W= .ok (.value (.agg cells)) W:=by
 have h:=run_build (P:=P) W t vs cells hc
 simp only [execOp,he,Sem.run_bind,h,Result.andThen_ok,Sem.run_pure]
theorem do_box{P:Program}{A:Act}{W:World}{x:Operand}{cs:Array Value}{t:TypeId}{d:Option Tmp}{ty:TypeId}{pos:String}{af:Array Edge}{g:Option (Nat×Bool)}{K:Act→World→Prop}{Q:Exit→Act→World→Prop}(hx:A.eval x= .agg cs)(hK:K (A.put d (.pointer (some ⟨W.heap.size,0,none⟩))) (W.alloc (.cells cs t))):Oper.wp P ⟨d, .box t x,ty,pos,af,g⟩ A W K Q:=by
 have hc:(newVar t (.agg cs)).run P W= .ok ⟨W.heap.size,0,none⟩ (W.alloc (.cells cs t)):=by simp [newVar,go_sem,Value.cells]
 unfold Oper.wp
 have e:(execOp A.eval ⟨d, .box t x,ty,pos,af,g⟩).run P W= .ok (.value (.pointer (some ⟨W.heap.size,0,none⟩))) (W.alloc (.cells cs t)):=by
  simp [execOp,Instr.box,hx,hc,Result.andThen]
 rw [e]
 exact hK
theorem path_built(bw:Nat){s:ST}(hs:s.ok)(a:Option Addr)(n c:Nat):prog.built 74 [(0, .pointer (some ⟨bw,0,none⟩)),(1, .agg s.cells.toArray),(2, .slice a n c)]=some (pcells bw s (.slice a n c)).toArray:=by
 unfold pcells
 obtain ⟨v0,v1,v2,v3,v4,v5,v6,v7,v8,v9,v10,v11,v12,v13,v14,v15,v16,v17,v18,v19,v20,e⟩:=list21 s.cells (ST.cells_len hs)
 rw [e]
 kernel_rfl
structure BrS(w0:World)(N bw mb:Nat)(ds:List MapD)(pk:Nat)(RL:RQ)(bp:Nat)(P:Nat→Prop)(q:PM)(s:ST)(sb:Nat)(wv:Value)(wc:World)(h4 h7 h8 h9:Option Value)(W:World):Prop where
 path:PathAt w0 N bw mb ds pk RL bp P q W
 st:SAt W sb s
 fr:Fr No wc W
 dep:(h4=none→h7=none)∧(h7=none→h8=none)∧(h8=none→h9=none)
 nine:∀u,h9=some u→h8=some u
 cp:∀v,h4=some v→∃bw2 mb2 N2 lo2,v= .pointer (some ⟨bw2,0,none⟩)∧wc.heap.size≤lo2∧lo2≤N2∧WM w0 N2 bw2 mb2 ds pk ⟨RL.L,fun k=>N≤k∧k<lo2,lo2⟩ q.W W∧(∀u,h7=some u→u= .agg (pcells bw2 s wv).toArray)∧∀u,h8=some u→∃bp2,u= .pointer (some ⟨bp2,0,none⟩)∧N2≤bp2∧CellsAt W bp2 0 (pcells bw2 s wv)∧∀j,W.frozen? ⟨bp2,j,none⟩=false
theorem BrS.no{w0:World}{N bw mb:Nat}{ds:List MapD}{pk:Nat}{RL:RQ}{bp:Nat}{P:Nat→Prop}{q:PM}{s:ST}{sb:Nat}{wv:Value}{wc:World}{h4 h7 h8 h9:Option Value}{W W':World}(h:BrS w0 N bw mb ds pk RL bp P q s sb wv wc h4 h7 h8 h9 W)(hf:Fr No W W'):BrS w0 N bw mb ds pk RL bp P q s sb wv wc h4 h7 h8 h9 W':=by
 refine ⟨h.path.no hf,h.st.fr hf id,h.fr.trans hf,h.dep,h.nine,fun v hv=> ?_⟩
 obtain ⟨bw2,mb2,N2,lo2,e,l1,l2,hw,h7',h8'⟩:=h.cp v hv
 refine ⟨bw2,mb2,N2,lo2,e,l1,l2,hw.to hf,h7',fun u hu=> ?_⟩
 obtain ⟨bp2,e2,l3,hc,ho⟩:=h8' u hu
 exact ⟨bp2,e2,l3,hf.cells hc id,fun j=>by rw [cells_frozen hf (World.block_lt_of_cell? _ _ (hc 0 _ rfl)) id];exact ho j⟩
theorem branch_any{w0 w:World}{N bw mb pk bp:Nat}{ds:List MapD}{RL:RQ}{P:Nat→Prop}{q:PM}(h:PathAt w0 N bw mb ds pk RL bp P q w)(s:ST)(hs:s.ok)(hl:q.waits.length≤1000000):
  Calls prog 39 #[.pointer (some ⟨bp,0,none⟩),s.agg] w fun e w'=>∃bp2 bw2 mb2 N2 lo2 P2,e= .returned (.pointer (some ⟨bp2,0,none⟩))∧Hid (PathAt w0 N2 bw2 mb2 ds pk ⟨RL.L,fun k=>N≤k∧k<lo2,lo2⟩ bp2 P2 {q with s:=s} w')∧Hid (∀k,P2 k→w.heap.size≤k)∧w.heap.size≤lo2∧Hid (Fr No w w'):=by
 have HB:Hid (∀t1,Fr No w (w.alloc (.cells s.cells.toArray t1))∧SAt (w.alloc (.cells s.cells.toArray t1)) w.heap.size s):=fun t1=>⟨fr_alloc _ _,SAt.new w hs _⟩
 have HH:=Lib.hid h
 clear h
 simp only [ST.agg]
 go_enter func39,ntmps39
 go_upto_region 1 with fail
 refine wp_box (fun W1=>Hid (Fr No w W1∧SAt W1 w.heap.size s)) (by exact HB.out _) ?_
 clear HB
 intro W1 HL
 have HP:=Lib.hid (HH.out.no HL.out.1)
 obtain ⟨wv,hcw,hrw,hkw⟩:=HP.out.box
 obtain ⟨wa,wn,rfl⟩:=ownsRow_form hrw
 have hwc:W1.cell? ⟨bp,22,none⟩=some (.slice wa q.waits.length wn):=by have:=hcw 22 _ (pcells_w HP.out.ok _);rwa [Nat.zero_add] at this
 obtain ⟨cur,hcur,hmk⟩:=make_sto q.waits.length hl W1
 have wl:=wflat_len q.waits
 have hsrc:0<q.waits.length→∃ad,wa=some ad∧∀j v,(wflat q.waits)[j]? =some v→W1.cell? (ad.add j)=some v:=fun hp=>by
  rcases hrw.2 with ⟨_,h0⟩|⟨g,cap,cu,e,_,hg,_,_,_,htk⟩
  ·omega
  ·injection e with e1 e2 e3
   refine ⟨_,e1,fun j v hj=> ?_⟩
   have hadd:(⟨g,0,none⟩:Addr).add j=⟨g,j,none⟩:=by unfold Addr.add;split<;>simp_all
   rw [hadd,cell_of_row W1 g j cu _ _ hg]
   rw [←htk,List.getElem?_take] at hj
   split at hj
   ·simpa using hj
   ·cases hj
 have HN1:=HP.out.wm.bound
 clear hcw hrw hkw
 go_upto_region 2 with fail
 have hg2:(W1.alloc (.cells cur 119)).heap[W1.heap.size]? =some (.cells cur 119 (0,0)):=heap_alloc_new _ _
 have f2:Fr No W1 (W1.alloc (.cells cur 119)):=fr_alloc _ _
 have z2:(W1.alloc (.cells cur 119)).heap.size=W1.heap.size+1:=size_alloc _ _
 have hwc2:=f2.cell hwc id
 generalize W1.alloc (.cells cur 119)=W2 at*
 go_upto_region 3 with (refine wpList_copyN (by rfl) (.tmp 12) (.tmp 16) 72 72 (by rfl) 119 2 underlying72 (by kernel_rfl) W1.heap.size q.waits.length q.waits.length wa q.waits.length wn q.waits.length (by rfl) (by rfl) cur 119 hg2 (Nat.min_self _) (wflat q.waits) wl (fun hp=>(hsrc hp).imp fun ad z=>⟨z.1,fun j v hj=>f2.cell (z.2 j v hj) id⟩) (by omega) (wflat_one _) ?_;intro W3 hg3 f3)
 have z3:W1.heap.size<W3.heap.size:=by
  have:=f3.size
  omega
 have HO:Hid (∀k,k=W1.heap.size→Out w0 N RL k∧¬P k):=Lib.hid fun k hk=>by
  have h1:=HP.out.wm.fr.size
  exact ⟨⟨by omega, .inl (by omega)⟩,fun hp=>by have:=HP.out.plt k hp;omega⟩
 have HP3:=Lib.hid ((HP.out.no f2).fr f3 HO.out)
 have HS3:Hid (SAt W3 w.heap.size s):=Lib.hid ((HL.out.2.fr f2 id).fr f3 (by have:w.heap.size<W1.heap.size:=HL.out.2.lt;omega))
 have HF3:Hid (Fr No w W3):=Lib.hid (((HL.out.1.any.trans f2.any).trans (f3.mono fun k _ hk=>by show w.heap.size≤k;have:=HL.out.1.size;omega)):Fr (From w) w W3).ours
 have HROW:Hid (∀W,Fr No W3 W→W.ownsRow 0 119 2 (.slice (some ⟨W1.heap.size,0,none⟩) q.waits.length q.waits.length) q.waits.length (wflat q.waits)):=Lib.hid fun W hf=>⟨wl, .inr ⟨W1.heap.size,q.waits.length,_,rfl,Nat.zero_le _,by rw [hf.block _ z3 id];exact hg3,Nat.le_refl _,by unfold maxLen;omega,by rw [List.size_toArray,List.length_append,List.length_drop,wl,Array.length_toList,hcur];omega,by rw [show ((wflat q.waits++List.drop (wflat q.waits).length cur.toList).toArray).toList=wflat q.waits++List.drop (wflat q.waits).length cur.toList from rfl,←wl,List.take_left]⟩⟩
 have HGW:Hid (w.heap.size≤W1.heap.size∧w0.heap.size≤W1.heap.size):=Lib.hid ⟨HL.out.1.size,HP.out.wm.fr.size⟩
 clear HP HO hg3 f3 f2 z2 hmk hcur hwc hwc2 hsrc HL
 generalize hgr:W1.heap.size=gr at*
 simp only [Act.put,goInt,List.setIfInBounds_toArray,List.set_cons_zero,List.set_cons_succ]
 go_cut [4] from 18 to 26 (fun s4 w4=>∃bp2,s4= .pointer (some ⟨bp2,0,none⟩)∧Hid (∃bw2 mb2 N2 lo2,W3.heap.size≤lo2∧lo2≤N2∧N2≤bp2∧WM w0 N2 bw2 mb2 ds pk ⟨RL.L,fun k=>N≤k∧k<lo2,lo2⟩ q.W w4∧CellsAt w4 bp2 0 (pcells bw2 s (.slice (some ⟨gr,0,none⟩) q.waits.length q.waits.length))∧(∀j,w4.frozen? ⟨bp2,j,none⟩=false)∧Fr No W3 w4))
 case first=>
  rename_i J K' hJ hK
  refine wp_region_made [(3, .pointer (some ⟨w.heap.size,0,none⟩)),(0, .pointer (some ⟨bp,0,none⟩)),(5, .slice (some ⟨gr,0,none⟩) q.waits.length q.waits.length)]
   [some (.pointer (some ⟨bp,0,none⟩)),some (.pointer (some ⟨bp,0,none⟩)),some (.pointer (some ⟨bp,0,none⟩)),some (.pointer (some ⟨bw,0,none⟩)),none,some s.agg,some (.slice (some ⟨gr,0,none⟩) q.waits.length q.waits.length),none,none,none]
   (fun h W=>BrS w0 N bw mb ds pk RL bp P q s w.heap.size (.slice (some ⟨gr,0,none⟩) q.waits.length q.waits.length) W3 (h 4) (h 7) (h 8) (h 9) W) (by kernel_rfl) (by kernel_rfl) (by kernel_rfl) (by kernel_rfl) ⟨rfl,rfl,rfl,trivial⟩ ⟨HP3.out.no (Fr.refl No W3).drew,HS3.out.fr (Fr.refl No W3).drew id,(Fr.refl No W3).drew,⟨fun _=>rfl,fun _=>rfl,fun _=>rfl⟩,(fun u hu=>by cases hu),fun v hv=>by cases hv⟩ ?_ ?_ ?_
  ·intro k o c ho hc h A' W' hS hpre hb
   have hw0:=hS.path.world0
   match k,ho,hc,hpre with
   |0,ho,hc,hpre=>cases ho;cases hc;exact do_move (base_val hb 0 (by simp))
   |1,ho,hc,hpre=>cases ho;cases hc;exact do_nil (pre_val hpre 0 18 (by kernel_rfl) rfl rfl)
   |2,ho,hc,hpre=>
    cases ho;cases hc
    have e:=pre_val hpre 1 19 (by kernel_rfl) rfl rfl
    show (execOp A'.eval ⟨some 20, .fieldAddr 74 (.tmp 19) 0,_,_,_,_⟩).run prog W'=_
    simp only [execOp,e]
    first|kernel_rfl|simp [go_sem]
   |3,ho,hc,hpre=>cases ho;cases hc;exact do_load (pre_val hpre 2 20 (by kernel_rfl) rfl rfl) (by simp [go_sem,hw0])
   |4,ho,hc,hpre=>cases hc
   |5,ho,hc,hpre=>cases ho;cases hc;exact do_load (base_val hb 3 (by simp)) (run_loadAt_mid W' w.heap.size 0 _ _ _ hS.st.cells underlying68 rfl (ST.info hs))
   |6,ho,hc,hpre=>cases ho;cases hc;exact do_move (base_val hb 5 (by simp))
   |7,ho,hc,hpre=>cases hc
   |8,ho,hc,hpre=>cases hc
   |9,ho,hc,hpre=>cases hc
   |n+10,ho,hc,hpre=>cases hc
  ·intro k o ho hc h A' W' hdf hi hS hpre hb
   match k,ho,hc,hi,hpre with
   |4,ho,hc,hi,hpre=>
    cases ho
    have e1:A'.eval (.tmp 21)= .pointer (some ⟨bw,0,none⟩):=pre_val2 hpre 3 21 (by kernel_rfl) rfl rfl
    have d7:=hS.dep.1 hi
    have d8:=hS.dep.2.1 d7
    have d9:=hS.dep.2.2 d8
    refine do_call (f:=72) (args:= #[.pointer (some ⟨bw,0,none⟩)]) ?_ ((hS.path.wm.copy hS.path.mok).mono fun e w' hh=> ?_)
    ·show (execOp A'.eval ⟨some 22, .call {callee:= .value (.func 72),args:= #[.tmp 21],argTypes:=_},_,_,_,_⟩).run prog W'=_
     simp [execOp,resolve,invoke,e1,go_sem]
     rw [←Array.getD_eq_getD_getElem?];exact e1
    ·obtain ⟨bw2,mb2,he,hw,hf⟩:=hh
     refine ⟨_,he,_,rfl,?_⟩
     have hS2:=hS.no hf
     show BrS w0 N bw mb ds pk RL bp P q s w.heap.size _ W3 (some (.pointer (some ⟨bw2,0,none⟩))) (h 7) (h 8) (h 9) w'
     refine ⟨hS2.path,hS2.st,hS2.fr,⟨fun hc=>(by cases hc),hS.dep.2.1,hS.dep.2.2⟩,hS.nine,fun v hv=>⟨bw2,mb2,w'.heap.size,W'.heap.size,(Option.some.inj hv).symm,hS.fr.size,hf.size,hw.out,fun u hu=> ?_,fun u hu=> ?_⟩⟩
     ·rw [d7] at hu;cases hu
     ·rw [d8] at hu;cases hu
   |7,ho,hc,hi,hpre=>
    cases ho
    obtain ⟨v,h1,h2⟩:=pre_made hpre 4 22 (by kernel_rfl) rfl rfl
    have e5:A'.eval (.tmp 23)=s.agg:=pre_val2 hpre 5 23 (by kernel_rfl) rfl rfl
    have e6:A'.eval (.tmp 24)= .slice (some ⟨gr,0,none⟩) q.waits.length q.waits.length:=pre_val2 hpre 6 24 (by kernel_rfl) rfl rfl
    obtain ⟨bw2,mb2,N2,lo2,rfl,l1,l2,hw,h7',h8'⟩:=hS.cp v h1
    have d8:=hS.dep.2.1 hi
    refine do_val (do_build (vs:= #[(0, .pointer (some ⟨bw2,0,none⟩)),(1, .agg s.cells.toArray),(2, .slice (some ⟨gr,0,none⟩) q.waits.length q.waits.length)]) ?_ (path_built bw2 hs _ _ _)) ⟨_,rfl,?_⟩
    ·simp only [List.map_toArray,List.map_cons,List.map_nil,h2,e5,e6,ST.agg]
    ·show BrS w0 N bw mb ds pk RL bp P q s w.heap.size _ W3 (h 4) (some _) (h 8) (h 9) W'
     refine ⟨hS.path,hS.st,hS.fr,⟨fun hc=>absurd (hc.symm.trans h1) (by simp),fun hc=>(by cases hc),hS.dep.2.2⟩,hS.nine,fun v hv=>⟨bw2,mb2,N2,lo2,Option.some.inj (hv.symm.trans h1),l1,l2,hw,fun u hu=>(Option.some.inj hu).symm,fun u hu=> ?_⟩⟩
     rw [d8] at hu;cases hu
   |8,ho,hc,hi,hpre=>
    cases ho
    obtain ⟨u,h1,h2⟩:=pre_made hpre 7 25 (by kernel_rfl) rfl rfl
    obtain ⟨v,h4⟩:∃v,h 4=some v:=by
     cases h4:h 4 with
     |none=>rw [hS.dep.1 h4] at h1;cases h1
     |some v=>exact ⟨v,rfl⟩
    obtain ⟨bw2,mb2,N2,lo2,rfl,l1,l2,hw,h7',h8'⟩:=hS.cp v h4
    obtain rfl:=h7' u h1
    have fa:Fr No W' (W'.alloc (.cells (pcells bw2 s (.slice (some ⟨gr,0,none⟩) q.waits.length q.waits.length)).toArray 74)):=fr_alloc _ _
    have hS2:=hS.no fa
    refine do_box h2 ⟨_,rfl,?_⟩
    show BrS w0 N bw mb ds pk RL bp P q s w.heap.size _ W3 (h 4) (h 7) (some (.pointer (some ⟨W'.heap.size,0,none⟩))) (h 9) _
    refine ⟨hS2.path,hS2.st,hS2.fr,⟨hS.dep.1,fun hc=>absurd (hc.symm.trans h1) (by simp),fun hc=>(by cases hc)⟩,fun u hu=>absurd (hS.nine u hu) (by rw [hi];simp),fun v hv=>⟨bw2,mb2,N2,lo2,Option.some.inj (hv.symm.trans h4),l1,l2,hw.to fa,fun u hu=>Option.some.inj (hu.symm.trans h1),fun u hu=> ?_⟩⟩
    obtain rfl:=Option.some.inj hu
    exact ⟨W'.heap.size,rfl,hw.bound,CellsAt.new W' _ _,fun j=>World.frozen?_alloc_new _ _ _ _⟩
   |9,ho,hc,hi,hpre=>
    cases ho
    obtain ⟨u,h1,h2⟩:=pre_made hpre 8 26 (by kernel_rfl) rfl rfl
    refine do_val (do_assign h2) ⟨u,rfl,?_⟩
    show BrS w0 N bw mb ds pk RL bp P q s w.heap.size _ W3 (h 4) (h 7) (h 8) (some u) W'
    exact ⟨hS.path,hS.st,hS.fr,⟨hS.dep.1,hS.dep.2.1,fun hc=>absurd (hc.symm.trans h1) (by simp)⟩,fun u' hu=>by rw [h1,Option.some.inj hu],hS.cp⟩
   |0,ho,hc,hi,hpre=>cases hc
   |1,ho,hc,hi,hpre=>cases hc
   |2,ho,hc,hi,hpre=>cases hc
   |3,ho,hc,hi,hpre=>cases hc
   |5,ho,hc,hi,hpre=>cases hc
   |6,ho,hc,hi,hpre=>cases hc
   |n+10,ho,hc,hi,hpre=>cases ho
  ·intro h V' W' hV hS
   have e9:h 9=some (V' 9):=hV 9 (by decide)
   have e8:=hS.nine _ e9
   obtain ⟨v,h4⟩:∃v,h 4=some v:=by
    cases h4:h 4 with
    |none=>rw [hS.dep.2.1 (hS.dep.1 h4)] at e8;cases e8
    |some v=>exact ⟨v,rfl⟩
   obtain ⟨bw2,mb2,N2,lo2,rfl,l1,l2,hw,h7',h8'⟩:=hS.cp v h4
   obtain ⟨bp2,e2,l3,hc,ho⟩:=h8' _ e8
   exact hK _ _ (Met.intro (hJ _ _ ⟨V' 9,V' 0,V' 1,V' 2,V' 3,V' 4,V' 5,V' 6,V' 7,V' 8,⟨bp2,e2,Lib.hid ⟨bw2,mb2,N2,lo2,l1,l2,l3,hw,hc,ho,hS.fr⟩⟩,by kernel_rfl⟩))
 case rest=>
  obtain ⟨bp2,rfl,HE⟩:=hcut
  have HN3:Hid (N≤gr):=Lib.hid HN1
  clear HN1
  go_wp2_with fail
  go_ret
  obtain ⟨bw2,mb2,N2,lo2,l1,l2,l3,hw,hc,ho,hf⟩:=HE.out
  have hb:=HP3.out.wm.fr.size
  have hN:=HN3.out
  have hwc:=HF3.out.size
  have hg:gr<lo2:=Nat.lt_of_lt_of_le z3 l1
  have hk:∀k,(k=bp2∨k=gr)→Out w0 N2 ⟨RL.L,fun k=>N≤k∧k<lo2,lo2⟩ k:=by
   rintro k (rfl|rfl)
   ·exact ⟨by omega, .inl l3⟩
   ·exact ⟨HGW.out.2, .inr ⟨hN,hg⟩⟩
  have hlt:=World.block_lt_of_cell? _ _ (hc 0 _ rfl)
  have hfs:=hf.size
  have hgw:=HGW.out
  simp only at hlt
  refine ⟨bp2,bw2,mb2,N2,lo2,fun k=>k=bp2∨k=gr,rfl,Lib.hid ⟨hw,hs,HH.out.mok,⟨_,hc,HROW.out _ hf,fun k hk=> ?_⟩,ho, .inl rfl,hk,fun k hk=>hk.2,HH.out.lens,?_⟩,Lib.hid ?_,by omega,Lib.hid (HF3.out.trans hf)⟩
  ·obtain rfl:gr=k:=Option.some.inj hk
   exact ⟨.inr rfl,by omega⟩
  ·rintro k (rfl|rfl)
   ·exact hlt
   ·omega
  ·rintro k (rfl|rfl)
   ·omega
   ·exact hgw.1
end Go.Proofs.YtfmcmfiebehhiaaGreatDoor
namespace Go.Proofs.YtfmcmfiebehhiaaGreatDoor
open Go.Proofs.Tryz
open Go.RowKit
structure Both(w0:World)(N bw mb:Nat)(ds:List MapD)(pk:Nat)(RL:RQ)(bp br bi bs:Nat)(code:List UInt8)(window:Nat)(script:List UInt8)(R K P:Nat→Prop)(q:PM)(t:TM)(w:World):Prop where
 run:SpRun br bi bs code window script R K t w
 path:PathAt w0 N bw mb ds pk RL bp P q w
 dis:∀k,R k→¬P k
 out:∀k,R k→Out w0 N RL k
 kout:∀k,K k→¬P k∧¬Zof w0 N RL k
section
variable {w0 w w':World} {N bw mb pk bp br bi bs window:Nat} {ds:List MapD} {RL:RQ} {code script:List UInt8} {R R' K P P':Nat→Prop} {q:PM} {t:TM}
theorem Both.no(h:Both w0 N bw mb ds pk RL bp br bi bs code window script R K P q t w)(hf:Fr No w w'):Both w0 N bw mb ds pk RL bp br bi bs code window script R K P q t w':=⟨h.run.no hf,h.path.no hf,h.dis,h.out,h.kout⟩
theorem Both.told(h:Both w0 N bw mb ds pk RL bp br bi bs code window script R K P q t w){t':TM}(hr:SpRun br bi bs code window script R' K t' w')(hR:∀k,R' k→R k∨w.heap.size≤k)(hf:Fr R w w'):Both w0 N bw mb ds pk RL bp br bi bs code window script R' K P q t' w':=by
 refine ⟨hr,h.path.fr hf (fun k hk=>⟨h.out k hk,h.dis k hk⟩),fun k hk hp=> ?_,fun k hk=> ?_,h.kout⟩
 ·rcases hR k hk with h1|h1
  ·exact h.dis k h1 hp
  ·have:=h.path.plt k hp;omega
 ·rcases hR k hk with h1|h1
  ·exact h.out k h1
  ·have h2:=h.path.wm.bound
   have h3:=h.path.wm.fr.size
   exact ⟨by omega, .inl (by omega)⟩
theorem Both.step(h:Both w0 N bw mb ds pk RL bp br bi bs code window script R K P q t w){q':PM}(hp:PathAt w0 N bw mb ds pk RL bp P' q' w')(hP:∀k,P' k→P k∨w.heap.size≤k)(hf:Fr (fun k=>P k∨Zof w0 N RL k) w w'):Both w0 N bw mb ds pk RL bp br bi bs code window script R K P' q' t w':=by
 refine ⟨h.run.fr hf (fun k hk=>⟨fun hr=> ?_,fun hK=> ?_⟩),hp,fun k hr hp'=> ?_,h.out,fun k hk=>⟨fun hp'=> ?_,(h.kout k hk).2⟩⟩
 ·rcases hk with h1|h1
  ·exact h.dis k hr h1
  ·exact (h.out k hr).not h.path.qlo h1
 ·rcases hk with h1|h1
  ·exact (h.kout k hK).1 h1
  ·exact (h.kout k hK).2 h1
 ·rcases hP k hp' with h1|h1
  ·exact h.dis k hr h1
  ·have:=h.run.rlt k hr;omega
 ·rcases hP k hp' with h1|h1
  ·exact (h.kout k hk).1 h1
  ·have:=h.run.klt k hk;omega
theorem SpRun.squash(h:SpRun br bi bs code window script R K t w)(n:Nat):SpRun br bi bs code window script R K {t with sq:=n} (w.setCell ⟨br,4,none⟩ (.int .i64 n))∧Fr R w (w.setCell ⟨br,4,none⟩ (.int .i64 n)):=by
 have hf:Fr (fun k=>k=br) w (w.setCell ⟨br,4,none⟩ (.int .i64 n)):=(Fr.refl (fun k=>k=br) w).setCell (p:=⟨br,4,none⟩) (.inr rfl) _
 obtain ⟨tv,t1,t2,t3⟩:=h.row
 obtain ⟨k,k1,k2⟩:=h.at_
 obtain ⟨v,v1,v2⟩:=h.scr
 have ne:br≠bi:=h.own.2.2
 have hK:∀k,K k→¬k=br:=fun k hk e=>h.apart _ h.own.1 (e ▸ hk)
 have cs:∀j v,j≠4→w.cell? ⟨br,j,none⟩=some v→(w.setCell ⟨br,4,none⟩ (.int .i64 n)).cell? ⟨br,j,none⟩=some v:=fun j v hj hc=>by
  rw [World.cell?_setCell_other _ _ _ _ (by intro e;simp only [Addr.mk.injEq] at e;omega)]
  exact hc
 exact ⟨⟨cs 0 _ (by decide) h.c0,cs 1 _ (by decide) h.c1,cs 2 _ (by decide) h.c2,⟨tv,cs 3 _ (by decide) t1,ownsRow_fr t2 hf (fun k hk=>(t3 k hk).2.1),t3⟩,World.cell?_setCell_same _ _ _ h.c4,fun j=>by rw [World.frozen?_setCell];exact h.open_ j,fun j=>by rw [World.frozen?_setCell];exact h.openi j,h.own,⟨k,hf.cell k1 (fun e=>ne e.symm),k2⟩,⟨v,hf.cell v1 (hK _ h.keep),v2.fr hf hK⟩,h.keep,h.apart,h.small,fun k hk=>Nat.lt_of_lt_of_le (h.klt k hk) hf.size,fun k hk=>Nat.lt_of_lt_of_le (h.rlt k hk) hf.size⟩,hf.mono fun k _ hk=>by rw [hk];exact h.own.1⟩
end
end Go.Proofs.YtfmcmfiebehhiaaGreatDoor

