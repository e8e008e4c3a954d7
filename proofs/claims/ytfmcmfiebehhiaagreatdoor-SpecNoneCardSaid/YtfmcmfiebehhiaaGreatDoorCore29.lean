/- A region that draws its order, in which memory is made and written: each operation is shown once, in whatever state those leave that have come up ahead of it. What the operations of a region that .. -/
import Derived.Test.YtfmcmfiebehhiaaGreatDoorCore28
import Derived.Deep.MidRow
import Derived.Deep.WholeRow
import Derived.Test.YtfmcmfiebehhiaaGreatDoorCore15
import Derived.Test.YtfmcmfiebehhiaaGreatDoorCore13
import Derived.Test.YtfmcmfiebehhiaaGreatDoorCore16
set_option linter.all false
set_option linter.unusedVariables false
set_option linter.unusedSimpArgs false
namespace Go.Proofs.YtfmcmfiebehhiaaGreatDoor
open Go.Proofs.Tryz
section
variable {P:Program} {ops:Array Oper} {Q:Exit→Act→World→Prop}
def okOpM(ops:Array Oper)(k:Nat):Bool:=
 match ops[k]? with
 |none=>false
 |some o=>o.guard.isNone&&
  (match o.dst with
   |none=>true
   |some d=>(List.range ops.size).all fun j=>j==k||dstOf ops j !=some d)&&
  o.after.all fun e=> !Region.binds .any e||decide (e.on<k)
def okOpsM(ops:Array Oper):Bool:=(List.range ops.size).all (okOpM ops)
theorem okOpM_of{k}(h:okOpsM ops=true)(hk:k<ops.size):okOpM ops k=true:=by
 unfold okOpsM at h
 simp only [List.all_eq_true,List.mem_range] at h
 exact h k hk
theorem okOpM_after{k}{o:Oper}(h:okOpM ops k=true)(ho:ops[k]? =some o):∀e∈o.after,Region.binds .any e=true→e.on<k:=by
 unfold okOpM at h
 simp only [ho,Bool.and_eq_true] at h
 intro e he hb
 have:=Array.all_eq_true_iff_forall_mem.1 h.2 e he
 simpa [hb] using this
theorem all_of_readyM(h:okOpsM ops=true){listed:Array Bool}(hl:listed.size=ops.size)(hr:Region.ready .any ops listed= []):∀k,k<ops.size→listed.getD k false=true:=by
 intro k
 induction k using Nat.strongRecOn with
 |ind k ih=>
  intro hk
  cases hc:listed.getD k false with
  |true=>rfl
  |false=>
   obtain ⟨o,ho⟩:∃o,ops[k]? =some o:=⟨_,Array.getElem?_eq_getElem hk⟩
   have:k∈Region.ready .any ops listed:=mem_ready.2 ⟨by
    have e:k<listed.size:=by omega
    simp only [Array.getD_eq_getD_getElem?,Array.getElem?_eq_getElem e,Option.getD_some] at hc ⊢
    exact hc,o,ho,fun e he hb=>ih e.on (okOpM_after (okOpM_of h hk) ho e he hb) (by have:=okOpM_after (okOpM_of h hk) ho e he hb;omega)⟩
   rw [hr] at this
   cases this
theorem wpAny_inv(hok:okOpsM ops=true)(I:Array Bool→Act→World→Prop)(hstep:∀(i:Nat) (o:Oper),ops[i]? =some o→∀(ls:Array Bool) (a:Act) (w:World),ls.size=ops.size→ls.getD i false=false→(∀e∈o.after,Region.binds .any e=true→ls.getD e.on false=true)→I ls a w→Oper.wp P o a w (fun a' w'=>I (ls.setIfInBounds i true) a' w') Q)(hfin:∀(ls:Array Bool) (a:Act) (w:World),(∀k,k<ops.size→ls.getD k false=true)→I ls a w→Q .normal a w):
  ∀(fuel:Nat) (ls:Array Bool) (a:Act) (w:World),left ops ls≤fuel→ls.size=ops.size→I ls a w→wpAny P .any ops Q fuel ls a w:=by
 intro fuel
 induction fuel with
 |zero=>
  intro ls a w hf hl M
  have hall:=left_zero (Nat.le_zero.1 hf)
  refine ⟨?_,hfin ls a w hall M⟩
  unfold Region.ready
  refine List.filter_eq_nil_iff.2 fun i hi=> ?_
  have hi2:=List.mem_range.1 hi
  have e:i<ls.size:=by rw [hl];exact hi2
  have:=hall i hi2
  simp [e] at this ⊢
  simp [this]
 |succ fuel ih=>
  intro ls a w hf hl M
  refine ⟨fun hr=>hfin ls a w (all_of_readyM hok hl hr) M,fun i hi=> ?_⟩
  obtain ⟨hun,o,ho,hall⟩:=mem_ready.1 hi
  have hio:i<ops.size:=by
   rcases Nat.lt_or_ge i ops.size with h|h
   ·exact h
   ·rw [Array.getElem?_eq_none h] at ho;cases ho
  have hil:i<ls.size:=by rw [hl];exact hio
  have hunf:ls.getD i false=false:=by simp [hil] at hun ⊢;exact hun
  have hk:=okOpM_of hok hio
  unfold okOpM at hk
  simp only [ho,Bool.and_eq_true] at hk
  obtain ⟨⟨hg,_⟩,_⟩:=hk
  have hgn:o.guard=none:=by simpa using hg
  have hw:Region.wanted o (yielded ops a.tmps)=true:=by unfold Region.wanted;rw [hgn]
  have hleft:left ops (ls.setIfInBounds i true)≤fuel:=by have:=left_step (ops:=ops) hio hl hunf;omega
  unfold wpOp
  simp only [ho]
  rw [if_pos hw]
  refine .inl (Oper.wp_mono ?_ (hstep i o ho ls a w hl hunf hall M))
  intro a' w' hI
  exact ih _ _ _ hleft (by rw [Array.size_setIfInBounds];exact hl) hI
def preOf(ops:Array Oper)(i:Nat):List Nat:=match ops[i]? with|none=> []|some o=>(o.after.toList.filter fun e=>Region.binds .any e).map (·.on)
def slotV(C:List (Option Value))(h:Nat→Option Value)(k:Nat):Option Value:=match C.getD k none with|some c=>some c|none=>h k
def Filled(ops:Array Oper)(C:List (Option Value))(h:Nat→Option Value)(a:Act)(k:Nat):Prop:=∀d,dstOf ops k=some d→∃v,slotV C h k=some v∧a.tmps[d]? =some v
theorem Filled.pure{C:List (Option Value)}{h:Nat→Option Value}{a:Act}{k d:Nat}{c:Value}(hf:Filled ops C h a k)(hd:dstOf ops k=some d)(hc:C.getD k none=some c):a.tmps[d]? =some c:=by
 obtain ⟨v,h1,h2⟩:=hf d hd
 unfold slotV at h1
 rw [hc] at h1
 obtain rfl:=Option.some.inj h1
 exact h2
theorem Filled.made{C:List (Option Value)}{h:Nat→Option Value}{a:Act}{k d:Nat}(hf:Filled ops C h a k)(hd:dstOf ops k=some d)(hc:C.getD k none=none):∃v,h k=some v∧a.tmps[d]? =some v:=by
 obtain ⟨v,h1,h2⟩:=hf d hd
 unfold slotV at h1
 rw [hc] at h1
 exact ⟨v,h1,h2⟩
def setH(h:Nat→Option Value)(i:Nat)(v:Value):Nat→Option Value:=fun k=>if k=i then some v else h k
theorem setH_same{h:Nat→Option Value}{i v}:setH h i v i=some v:=if_pos rfl
theorem setH_ne{h:Nat→Option Value}{i k v}(hk:k≠i):setH h i v k=h k:=if_neg hk
structure Mid(ops:Array Oper)(a0:Act)(C:List (Option Value))(S:(Nat→Option Value)→World→Prop)(ls:Array Bool)(a:Act)(w:World)(h:Nat→Option Value):Prop where
 defers:a.defers=a0.defers
 size:a.tmps.size=a0.tmps.size
 base:∀s,(∀j,dstOf ops j≠some s)→a.tmps[s]? =a0.tmps[s]?
 slots:∀k,ls.getD k false=true→Filled ops C h a k
 full:∀k,ls.getD k false=true→∃v,slotV C h k=some v
 fresh:∀k,ls.getD k false=false→h k=none
 world:S h w
def okDst(ops:Array Oper)(n:Nat):Bool:=(List.range ops.size).all fun j=>match dstOf ops j with|none=>true|some d=>decide (d<n)
def okBase(ops:Array Oper)(bl:List Tmp):Bool:=(List.range ops.size).all fun j=>match dstOf ops j with|none=>true|some d=> !bl.contains d
theorem dst_has{j s:Nat}(hj:dstOf ops j=some s):j<ops.size:=by
 rcases Nat.lt_or_ge j ops.size with h|h
 ·exact h
 ·unfold dstOf at hj;rw [Array.getElem?_eq_none h] at hj;cases hj
theorem base_of{a0 a:Act}{base:List (Tmp×Value)}(hok:okBase ops (base.map (·.1))=true)(hb:Vals a0 base)(h:∀s,(∀j,dstOf ops j≠some s)→a.tmps[s]? =a0.tmps[s]?):Vals a base:=by
 refine vals_of fun p hp=> ?_
 rw [h p.1 fun j hj=> ?_]
 ·exact of_vals hb p hp
 ·unfold okBase at hok
  simp only [List.all_eq_true,List.mem_range] at hok
  have:=hok j (dst_has hj)
  rw [hj] at this
  simp only [Bool.not_eq_true',List.contains_eq_mem,decide_eq_false_iff_not] at this
  exact this (List.mem_map_of_mem hp)
def putsM(ops:Array Oper)(V:Nat→Value):List Nat→Act→Act
 | [],a=>a
 |k::l,a=>putsM ops V l (a.put (dstOf ops k) (V k))
theorem putsM_defers(V):∀(l:List Nat) (a:Act),(putsM ops V l a).defers=a.defers
 | [],_=>rfl
 |k::l,a=>by
  unfold putsM
  rw [putsM_defers V l]
  unfold Act.put
  split<;>rfl
theorem put_size(a:Act)(d:Option Tmp)(v):(a.put d v).tmps.size=a.tmps.size:=by
 cases d with
 |none=>rfl
 |some d=>show (a.tmps.setIfInBounds d v).size=_;rw [Array.size_setIfInBounds]
theorem putsM_other(V:Nat→Value)(s:Nat):∀(l:List Nat) (a:Act),(∀k∈l,dstOf ops k≠some s)→(putsM ops V l a).tmps[s]? =a.tmps[s]?
 | [],_,_=>rfl
 |k::l,a,h=>by
  unfold putsM
  rw [putsM_other V s l _ (fun j hj=>h j (List.mem_cons_of_mem _ hj))]
  have hk:=h k List.mem_cons_self
  cases hd:dstOf ops k with
  |none=>rfl
  |some d=>
   show (a.tmps.setIfInBounds d (V k))[s]? =_
   rw [Array.getElem?_setIfInBounds_ne (fun e=>hk (by rw [hd,e]))]
theorem putsM_own(V:Nat→Value)(hdist:∀i j d,dstOf ops i=some d→dstOf ops j=some d→i=j)(i d:Nat)(hd:dstOf ops i=some d):∀(l:List Nat) (a:Act),d<a.tmps.size→i∈l→(putsM ops V l a).tmps[d]? =some (V i)
 |k::l,a,hs,hi=>by
  unfold putsM
  by_cases hil:i∈l
  ·exact putsM_own V hdist i d hd l _ (by rw [put_size];exact hs) hil
  ·rcases List.mem_cons.1 hi with rfl|h
   ·rw [putsM_other V d l _ (fun j hj hj2=>hil (hdist i j d hd hj2 ▸ hj)),hd]
    show (a.tmps.setIfInBounds d (V i))[d]? =_
    rw [Array.getElem?_setIfInBounds,if_pos rfl,if_pos hs]
   ·exact absurd h hil
theorem wp_region_made{id}{a:Act}{w:World}(base:List (Tmp×Value))(C:List (Option Value))(S:(Nat→Option Value)→World→Prop)(hm:P.follows .mixedOrders=true)(hok:okOpsM ops=true)(hok1:okDst ops a.tmps.size=true)(hok2:okBase ops (base.map (·.1))=true)(hbase:Vals a base)(h0:S (fun _=>none) w.drew)(hpure:∀(i:Nat) (o:Oper) (c:Value),ops[i]? =some o→C.getD i none=some c→∀h (a:Act) W,S h W→(∀k∈preOf ops i,Filled ops C h a k)→Vals a base→(execOp a.eval o).run P W= .ok (.value c) W)(hspec:∀(i:Nat) (o:Oper),ops[i]? =some o→C.getD i none=none→∀h (a':Act) W,a'.defers=a.defers→h i=none→S h W→(∀k∈preOf ops i,Filled ops C h a' k∧(C.getD k none=none→∃v,h k=some v))→Vals a' base→Oper.wp P o a' W (fun a2 w'=>∃v,a2=a'.put o.dst v∧S (setH h i v) w') Q)(hfin:∀h (V:Nat→Value) W,(∀k,k<ops.size→slotV C h k=some (V k))→S h W→Q .normal (putsM ops V (List.range ops.size) a) W):(Code.region id ops true).wp P Q a w:=by
 have hdn:∀i d,dstOf ops i=some d→d<a.tmps.size:=by
  intro i d hi
  unfold okDst at hok1
  simp only [List.all_eq_true,List.mem_range] at hok1
  have:=hok1 i (dst_has hi)
  rw [hi] at this
  exact of_decide_eq_true this
 have hdist:∀i j d,dstOf ops i=some d→dstOf ops j=some d→i=j:=by
  intro i j d hi hj
  have hk:=okOpM_of hok (dst_has hi)
  obtain ⟨o,ho⟩:∃o,ops[i]? =some o:=⟨_,Array.getElem?_eq_getElem (dst_has hi)⟩
  have hd:o.dst=some d:=by unfold dstOf at hi;rw [ho] at hi;exact hi
  unfold okOpM at hk
  simp only [ho,Bool.and_eq_true,hd] at hk
  have:=(List.all_eq_true.1 hk.1.2) j (List.mem_range.2 (dst_has hj))
  simp only [hj,Bool.or_eq_true,beq_iff_eq,bne_self_eq_false,Bool.false_eq_true,or_false] at this
  exact this.symm
 refine wp_region_any hm (wpAny_inv hok (fun ls a' w'=>∃h,Mid ops a C S ls a' w' h) ?_ ?_ _ _ _ _ ?_ (by simp) ⟨fun _=>none,rfl,rfl,fun _ _=>rfl,fun k hk=> ?_,fun k hk=> ?_,fun _ _=>rfl,h0⟩)
 ·rintro i o ho ls a' w' hls hun hall ⟨h,M⟩
  have hio:i<ops.size:=by
   rcases Nat.lt_or_ge i ops.size with h|h
   ·exact h
   ·rw [Array.getElem?_eq_none h] at ho;cases ho
  have hil:i<ls.size:=by rw [hls];exact hio
  have hod:o.dst=dstOf ops i:=by unfold dstOf;rw [ho];rfl
  have hpre:∀k∈preOf ops i,ls.getD k false=true:=by
   intro k hk
   unfold preOf at hk
   rw [ho] at hk
   obtain ⟨e,he,rfl⟩:=List.mem_map.1 hk
   obtain ⟨he,hb⟩:=List.mem_filter.1 he
   exact hall e (Array.mem_toList_iff.1 he) hb
  have hbs:=base_of hok2 hbase M.base
  have next:∀(h':Nat→Option Value) (v:Value) (w2:World),(∀k,k≠i→h' k=h k)→slotV C h' i=some v→S h' w2→∃h,Mid ops a C S (ls.setIfInBounds i true) (a'.put o.dst v) w2 h:=by
   intro h' v w2 he hv hS
   rw [hod]
   refine ⟨h',?_,by rw [put_size];exact M.size,fun s hs=> ?_,?_,?_,?_,hS⟩
   ·have:(a'.put (dstOf ops i) v).defers=a'.defers:=by unfold Act.put;split<;>rfl
    rw [this];exact M.defers
   ·rw [←M.base s hs]
    cases hd:dstOf ops i with
    |none=>rfl
    |some d=>
     show (a'.tmps.setIfInBounds d v)[s]? =_
     rw [Array.getElem?_setIfInBounds_ne (fun e=>hs i (by rw [hd,e]))]
   ·intro k hk
    by_cases hki:k=i
    ·subst hki
     intro d' hd'
     refine ⟨v,hv,?_⟩
     rw [hd']
     show (a'.tmps.setIfInBounds d' v)[d']? =some v
     rw [Array.getElem?_setIfInBounds,if_pos rfl,if_pos (by rw [M.size];exact hdn _ _ hd')]
    ·rw [getD_set_ne false (Ne.symm hki)] at hk
     intro d' hd'
     obtain ⟨u,h1,h2⟩:=M.slots k hk d' hd'
     refine ⟨u,by unfold slotV at h1 ⊢;rw [he k hki];exact h1,?_⟩
     cases hd:dstOf ops i with
     |none=>exact h2
     |some d=>
      show (a'.tmps.setIfInBounds d v)[d']? =some u
      rw [Array.getElem?_setIfInBounds_ne (fun e=>hki (hdist k i d' hd' (by rw [hd,e])))]
      exact h2
   ·intro k hk
    by_cases hki:k=i
    ·subst hki;exact ⟨v,hv⟩
    ·rw [getD_set_ne false (Ne.symm hki)] at hk
     obtain ⟨u,h1⟩:=M.full k hk
     exact ⟨u,by unfold slotV at h1 ⊢;rw [he k hki];exact h1⟩
   ·intro k hk
    by_cases hki:k=i
    ·subst hki
     rw [getD_set_self hil] at hk
     cases hk
    ·rw [getD_set_ne false (Ne.symm hki)] at hk
     rw [he k hki]
     exact M.fresh k hk
  cases hc:C.getD i none with
  |some c=>
   have hr:=hpure i o c ho hc h a' w' M.world (fun k hk=>M.slots k (hpre k hk)) hbs
   unfold Oper.wp
   rw [hr]
   exact next h c w' (fun _ _=>rfl) (by unfold slotV;rw [hc]) M.world
  |none=>
   refine Oper.wp_mono ?_ (hspec i o ho hc h a' w' M.defers (M.fresh i hun) M.world (fun k hk=>⟨M.slots k (hpre k hk),fun hn=>by
    obtain ⟨u,hu⟩:=M.full k (hpre k hk)
    unfold slotV at hu
    rw [hn] at hu
    exact ⟨u,hu⟩⟩) hbs)
   rintro a2 w2 ⟨v,rfl,hS⟩
   exact next (setH h i v) v w2 (fun k hk=>setH_ne hk) (by unfold slotV;rw [hc];exact setH_same) hS
 ·rintro ls a' w' hall ⟨h,M⟩
  have hV:∀k,∃v,k<ops.size→slotV C h k=some v:=by
   intro k
   by_cases hk:k<ops.size
   ·obtain ⟨v,hv⟩:=M.full k (hall k hk)
    exact ⟨v,fun _=>hv⟩
   ·exact ⟨undef,fun h=>absurd h hk⟩
  obtain ⟨V,hV⟩:=Classical.axiomOfChoice hV
  have ha:a'=putsM ops V (List.range ops.size) a:=by
   have e1:a'.tmps=(putsM ops V (List.range ops.size) a).tmps:=by
    refine Array.ext_getElem? fun s=> ?_
    by_cases hs:∃j,dstOf ops j=some s
    ·obtain ⟨j,hj⟩:=hs
     rw [putsM_own V hdist j s hj _ a (hdn _ _ hj) (List.mem_range.2 (dst_has hj))]
     obtain ⟨u,h1,h2⟩:=M.slots j (hall j (dst_has hj)) s hj
     rw [hV j (dst_has hj)] at h1
     rw [h2,h1]
    ·have hs:∀j,dstOf ops j≠some s:=fun j hj=>hs ⟨j,hj⟩
     rw [putsM_other V s _ a (fun j _=>hs j)]
     exact M.base s hs
   have e2:a'.defers=(putsM ops V (List.range ops.size) a).defers:=by rw [putsM_defers];exact M.defers
   cases a'
   cases hp:putsM ops V (List.range ops.size) a
   rw [hp] at e1 e2
   simp only at e1 e2
   rw [e1,e2]
  rw [ha]
  exact hfin h V w' hV M.world
 ·unfold left
  refine Nat.le_trans (List.length_filter_le _ _) ?_
  simp
 ·simp [Array.getD_eq_getD_getElem?,Array.getElem?_replicate] at hk
  split at hk<;>simp at hk
 ·simp [Array.getD_eq_getD_getElem?,Array.getElem?_replicate] at hk
  split at hk<;>simp at hk
end
end Go.Proofs.YtfmcmfiebehhiaaGreatDoor
namespace Go.Proofs.YtfmcmfiebehhiaaGreatDoor
open Go.Proofs.Tryz
open Go.RowKit
theorem evalT{A:Act}{d v}(h:A.tmps[d]? =some v):A.eval (.tmp d)=v:=by
 show A.tmps.getD d undef=v
 rw [Array.getD_eq_getD_getElem?,h]
 rfl
section
variable {P:Program} {ops:Array Oper} {C:List (Option Value)} {h:Nat→Option Value} {a:Act} {i:Nat}
theorem pre_val(hpre:∀k∈preOf ops i,Filled ops C h a k)(k d:Nat){c:Value}(hk:(preOf ops i).contains k=true)(hd:dstOf ops k=some d)(hc:C.getD k none=some c):a.eval (.tmp d)=c:=
 evalT ((hpre k (by simpa using hk)).pure hd hc)
theorem pre_val2(hpre:∀k∈preOf ops i,Filled ops C h a k∧(C.getD k none=none→∃v,h k=some v))(k d:Nat){c:Value}(hk:(preOf ops i).contains k=true)(hd:dstOf ops k=some d)(hc:C.getD k none=some c):a.eval (.tmp d)=c:=
 evalT ((hpre k (by simpa using hk)).1.pure hd hc)
theorem pre_made(hpre:∀k∈preOf ops i,Filled ops C h a k∧(C.getD k none=none→∃v,h k=some v))(k d:Nat)(hk:(preOf ops i).contains k=true)(hd:dstOf ops k=some d)(hc:C.getD k none=none):∃v,h k=some v∧a.eval (.tmp d)=v:=by
 obtain ⟨v,h1,h2⟩:=(hpre k (by simpa using hk)).1.made hd hc
 exact ⟨v,h1,evalT h2⟩
theorem base_val{base:List (Tmp×Value)}(hb:Vals a base)(d:Nat){v:Value}(hm:(d,v)∈base):a.eval (.tmp d)=v:=evalT (of_vals hb (d,v) hm)
end
section
variable {P:Program} {A:Act} {W:World}
theorem do_move{x v}{d:Option Tmp}{ty pos af}{g:Option (Nat×Bool)}(hx:A.eval x=v):(execOp A.eval ⟨d, .move x,ty,pos,af,g⟩).run P W= .ok (.value v) W:=by rw [←hx];rfl
theorem do_assign{x v}{d:Option Tmp}{ty pos af}{g:Option (Nat×Bool)}(hx:A.eval x=v):(execOp A.eval ⟨d, .assign x,ty,pos,af,g⟩).run P W= .ok (.value v) W:=by rw [←hx];rfl
theorem do_convert{x v r s t}{d:Option Tmp}{ty pos af}{g:Option (Nat×Bool)}(hx:A.eval x=v)(hr:(convert s t v).run P W= .ok r W):(execOp A.eval ⟨d, .convert s t x,ty,pos,af,g⟩).run P W= .ok (.value r) W:=by
 simp [execOp,hx,hr,Result.andThen]
theorem do_bin{op x y v u r s t}{d:Option Tmp}{ty pos af}{g:Option (Nat×Bool)}(hx:A.eval x=v)(hy:A.eval y=u)(hr:(do eqGuard op s x y v u;binOp op s v u:Sem Value).run P W= .ok r W):(execOp A.eval ⟨d, .binOp op s x y t,ty,pos,af,g⟩).run P W= .ok (.value r) W:=by
 simp only [execOp,hx,hy]
 rw [Sem.run_bind,hr]
 rfl
theorem do_index{x y v u r t}{d:Option Tmp}{ty pos af}{g:Option (Nat×Bool)}(hx:A.eval x=v)(hy:A.eval y=u)(hr:(Instr.indexAt t v u).run P W= .ok r W):(execOp A.eval ⟨d, .indexAddr t x y,ty,pos,af,g⟩).run P W= .ok (.value r) W:=by
 simp [execOp,hx,hy,hr,Result.andThen]
theorem do_load{x v r t}{d:Option Tmp}{ty pos af}{g:Option (Nat×Bool)}(hx:A.eval x=v)(hr:(Instr.loadAt t v).run P W= .ok r W):(execOp A.eval ⟨d, .load t x,ty,pos,af,g⟩).run P W= .ok (.value r) W:=by
 simp [execOp,hx,hr,Result.andThen]
theorem do_alloc{z:Array Value}{t:TypeId}{d:Option Tmp}{ty:TypeId}{pos:String}{af:Array Edge}{g:Option (Nat×Bool)}{K:Act→World→Prop}{Q:Exit→Act→World→Prop}(hz:(P.info? t).map (fun i=>(i.zero,i.size))=some (some (.agg z),z.size))(hK:K (A.put d (.pointer (some ⟨W.heap.size,0,none⟩))) (W.alloc (.cells z t))):Oper.wp P ⟨d, .alloc t,ty,pos,af,g⟩ A W K Q:=by
 have h:=(zero_of_info hz).1 W
 have hc:(newVar t (.agg z)).run P W= .ok ⟨W.heap.size,0,none⟩ (W.alloc (.cells z t)):=by simp [newVar,go_sem,Value.cells]
 unfold Oper.wp
 have e:(execOp A.eval ⟨d, .alloc t,ty,pos,af,g⟩).run P W= .ok (.value (.pointer (some ⟨W.heap.size,0,none⟩))) (W.alloc (.cells z t)):=by
  simp [execOp,Instr.alloc,h,hc,Result.andThen]
 rw [e]
 exact hK
theorem do_store{t x y b}{cs:Array Value}{ty pos af}{g:Option (Nat×Bool)}{K:Act→World→Prop}{Q}(hx:A.eval x= .pointer (some ⟨b,0,none⟩))(hy:A.eval y= .agg cs)(ht:W.there b 0 cs.size)(hi:(P.info? t).map (·.size)=some cs.size)(h1:cs.all (·.oneCell')=true)(hK:K A (W.setCells b 0 cs.toList)):Oper.wp P ⟨none, .store t x y,ty,pos,af,g⟩ A W K Q:=
 wp_store_mid t x y rfl b 0 cs hx hy ht hi h1 hK
end
def Boxed(w1 W:World)(hp hd:Option Value)(cs:List Value):Prop:=
 (hp=none→hd=none)∧∀v,hp=some v→∃b,v= .pointer (some ⟨b,0,none⟩)∧w1.heap.size≤b∧b<W.heap.size∧W.there b 0 cs.length∧(hd≠none→CellsAt W b 0 cs)
theorem Boxed.not{w1 W cs}:Boxed w1 W none none cs:=⟨fun _=>rfl,fun v h=>by cases h⟩
theorem Boxed.made{w1 W:World}{cs:List Value}(hs:w1.heap.size≤W.heap.size)(z:List Value)(t)(hz:z.length=cs.length):Boxed w1 (W.alloc (.cells z.toArray t)) (some (.pointer (some ⟨W.heap.size,0,none⟩))) none cs:=by
 refine ⟨fun _=>rfl,fun v h=> ?_⟩
 obtain rfl:=Option.some.inj h
 refine ⟨_,rfl,hs,by show _<(W.heap.push _).size;rw [Array.size_push];omega,fun j hj=> ?_,fun h=>absurd rfl h⟩
 have hc:=CellsAt.new W z t j z[j] (List.getElem?_eq_getElem (by omega))
 exact ⟨by rw [hc];rfl,World.frozen?_alloc_new _ _ _ _⟩
theorem Boxed.alloc{w1 W:World}{hp hd:Option Value}{cs}(h:Boxed w1 W hp hd cs)(o):Boxed w1 (W.alloc o) hp hd cs:=by
 refine ⟨h.1,fun v hv=> ?_⟩
 obtain ⟨b,e,h1,h2,h3,h4⟩:=h.2 v hv
 exact ⟨b,e,h1,by show _<(W.heap.push _).size;rw [Array.size_push];omega,World.there_alloc h3 o,fun hn=>World.rangeAt_alloc (h4 hn) o⟩
theorem Boxed.put{w1 W:World}{b}{hd:Option Value}{cs}(h:Boxed w1 W (some (.pointer (some ⟨b,0,none⟩))) hd cs)(u):Boxed w1 (W.setCells b 0 cs) (some (.pointer (some ⟨b,0,none⟩))) (some u) cs:=by
 obtain ⟨b',e,h1,h2,h3, -⟩:=h.2 _ rfl
 cases e
 refine ⟨fun h=>absurd h (by simp),fun v hv=> ?_⟩
 obtain rfl:=Option.some.inj hv
 exact ⟨b,rfl,h1,by rw [size_setCells];exact h2,World.there_setCells h3 b 0 cs,fun _=>World.rangeAt_setCells_same W b 0 cs h3⟩
theorem Boxed.other{w1 W:World}{hp hd:Option Value}{cs}(h:Boxed w1 W hp hd cs)(b vs)(hn:∀v,hp=some v→v≠ .pointer (some ⟨b,0,none⟩)):Boxed w1 (W.setCells b 0 vs) hp hd cs:=by
 refine ⟨h.1,fun v hv=> ?_⟩
 obtain ⟨b',e,h1,h2,h3,h4⟩:=h.2 v hv
 have hb:b'≠b:=by rintro rfl;exact hn v hv e
 exact ⟨b',e,h1,by rw [size_setCells];exact h2,World.there_setCells h3 b 0 vs,fun hd=>World.rangeAt_setCells_apart (h4 hd) b 0 vs (.inl hb)⟩
end Go.Proofs.YtfmcmfiebehhiaaGreatDoor
namespace Go.Proofs.YtfmcmfiebehhiaaGreatDoor
open Go.Proofs.Tryz
open Go.RowKit
def outV(a k:Int):Value:= .agg #[.int .u64 a, .int .i64 k]
structure OB(w:World)(b:Nat)(a k:Int):Prop where
 cells:CellsAt w b 0 [.int .u64 a, .int .i64 k]
 open_:∀j,w.frozen? ⟨b,j,none⟩=false
theorem OB.at{w:World}{b a k}(h:OB w b a k):w.cell? ⟨b,0,none⟩=some (.int .u64 a)∧w.cell? ⟨b,1,none⟩=some (.int .i64 k):=by
 have h0:=h.cells 0 _ rfl
 have h1:=h.cells 1 _ rfl
 exact ⟨h0,h1⟩
theorem OB.fr{T w w' b a k}(h:OB w b a k)(hf:Fr T w w')(hb:¬T b):OB w' b a k:=
 ⟨hf.cells h.cells hb,fun j=>by rw [cells_frozen hf (World.block_lt_of_cell? w _ h.at.1) hb];exact h.open_ j⟩
theorem OB.put{w:World}{b a k}(h:OB w b a k)(a' k'):OB ((w.setCell ⟨b,0,none⟩ (.int .u64 a')).setCell ⟨b,1,none⟩ (.int .i64 k')) b a' k':=by
 refine ⟨?_,fun j=>by rw [World.frozen?_setCell,World.frozen?_setCell];exact h.open_ j⟩
 intro j v hj
 rw [Nat.zero_add]
 match j,hj with
 |0,hj=>
  cases hj
  rw [World.cell?_setCell_other _ _ _ _ (by intro e;simp only [Addr.mk.injEq] at e;omega)]
  exact World.cell?_setCell_same _ _ _ h.at.1
 |1,hj=>
  cases hj
  exact World.cell?_setCell_same _ _ _ (by rw [World.cell?_setCell_other _ _ _ _ (by intro e;simp only [Addr.mk.injEq] at e;omega)];exact h.at.2)
structure RnS(w0 wr:World)(N bw mb:Nat)(ds:List MapD)(p:Nat)(RL:RQ)(W:HW)(s:ST)(a k:Int)(w:World):Prop where
 wm:WM w0 N bw mb ds p RL W w
 out:OB w wr.heap.size a k
 st:SAt w (wr.heap.size+1) s
 fr:Fr (fun k=>Zof w0 N RL k∨wr.heap.size≤k) wr w
 lb:N≤wr.heap.size
theorem RnS.start{w0 wr:World}{N bw mb ds p RL W}(h:WM w0 N bw mb ds p RL W wr)(t1 t2):RnS w0 wr N bw mb ds p RL W ST.zero 0 0 ((wr.alloc (.cells #[.int .u64 0, .int .i64 0] t1)).alloc (.cells ST.zero.cells.toArray t2)):=by
 obtain ⟨W1,hW1⟩:∃W1,W1=wr.alloc (.cells #[.int .u64 0, .int .i64 0] t1):=⟨_,rfl⟩
 have z1:W1.heap.size=wr.heap.size+1:=by rw [hW1,size_alloc]
 have c1:OB W1 wr.heap.size 0 0:=by rw [hW1];exact ⟨CellsAt.new wr [.int .u64 0, .int .i64 0] _,fun j=>World.frozen?_alloc_new _ _ _ _⟩
 have f1:Fr No wr W1:=by rw [hW1];exact fr_alloc _ _
 rw [←hW1]
 exact ⟨h.to (f1.trans (fr_alloc _ _)),c1.fr (fr_alloc _ _) (T:=No) id,by rw [←z1];exact SAt.new W1 ST.zero_ok _,(f1.trans (fr_alloc _ _)).any,h.bound⟩
theorem RnS.no{w0 wr w w' N bw mb ds p RL W s a k}(h:RnS w0 wr N bw mb ds p RL W s a k w)(hf:Fr No w w'):RnS w0 wr N bw mb ds p RL W s a k w':=
 ⟨h.wm.to hf,h.out.fr hf id,h.st.fr hf id,h.fr.trans hf.any,h.lb⟩
theorem RnS.turn{w0 wr w w' N bw mb ds p RL W W' s a k}(h:RnS w0 wr N bw mb ds p RL W s a k w)(hm:WM w0 N bw mb ds p RL W' w')(hf:Fr (Zof w0 N RL) w w'):RnS w0 wr N bw mb ds p RL W' s a k w':=by
 have hlb:=h.lb
 have n1:∀k,N≤k→¬Zof w0 N RL k:=fun k hk hz=>by have:=hz.2;omega
 exact ⟨hm,h.out.fr hf (n1 _ hlb),h.st.fr hf (n1 _ (by omega)),h.fr.trans (hf.mono fun _ _ hk=> .inl hk),hlb⟩
theorem RnS.state{w0 wr w w':World}{N bw mb ds p RL W s t a k}(h:RnS w0 wr N bw mb ds p RL W s a k w)(ht:SAt w' (wr.heap.size+1) t)(hf:Fr (fun k=>k=wr.heap.size+1) w w'):RnS w0 wr N bw mb ds p RL W t a k w':=
 ⟨h.wm.beside hf (fun k hk=>by have:=h.lb;omega),h.out.fr hf (by omega),ht,h.fr.trans (hf.mono fun k _ hk=> .inr (by omega)),h.lb⟩
theorem RnS.put{w0 wr w:World}{N bw mb ds p RL W s a k}(h:RnS w0 wr N bw mb ds p RL W s a k w)(a' k'):RnS w0 wr N bw mb ds p RL W s a' k' ((w.setCell ⟨wr.heap.size,0,none⟩ (.int .u64 a')).setCell ⟨wr.heap.size,1,none⟩ (.int .i64 k')):=by
 have hf:Fr (fun k=>k=wr.heap.size) w ((w.setCell ⟨wr.heap.size,0,none⟩ (.int .u64 a')).setCell ⟨wr.heap.size,1,none⟩ (.int .i64 k')):=((Fr.refl (fun k=>k=wr.heap.size) w).setCell (p:=⟨wr.heap.size,0,none⟩) (.inr rfl) _).setCell (p:=⟨wr.heap.size,1,none⟩) (.inr rfl) _
 exact ⟨h.wm.beside hf (fun k hk=>by have:=h.lb;omega),h.out.put a' k',h.st.fr hf (by omega),h.fr.trans (hf.mono fun k _ hk=> .inr (by omega)),h.lb⟩
theorem RnS.own{w0 wr w w':World}{N bw mb ds p RL W s a k}(h:RnS w0 wr N bw mb ds p RL W s a k w){b}(hb:wr.heap.size+1<b)(hf:Fr (fun k=>k=b) w w'):RnS w0 wr N bw mb ds p RL W s a k w':=
 ⟨h.wm.beside hf (fun k hk=>by have:=h.lb;omega),h.out.fr hf (by omega),h.st.fr hf (by omega),h.fr.trans (hf.mono fun k _ hk=> .inr (by omega)),h.lb⟩
theorem RnS.store{w0 wr w:World}{N bw mb ds p RL W s a0 k0}(h:RnS w0 wr N bw mb ds p RL W s a0 k0 w){t:ST}(ht:t.ok){ops rest}{op:Oper}{a:Act}{Q}(hgd:op.guard=none)(px py)(ho:op.op= .store 68 px py)(hx:a.eval px= .pointer (some ⟨wr.heap.size+1,0,none⟩))(hy:a.eval py= .agg t.cells.toArray)(k:∀W',Hid (RnS w0 wr N bw mb ds p RL W t a0 k0 W')→wpList prog ops Q rest (a.put op.dst undef) W'):wpList prog ops Q (op::rest) a w:=
 h.st.store ht hgd px py ho hx hy fun W' h1 h2=>k W' (h.state h1 h2)
theorem RnS.end_{w0 wr w N bw mb ds p RL W s a k}(h:RnS w0 wr N bw mb ds p RL W s a k w):Hid (WM w0 N bw mb ds p RL W w)∧Hid (Fr (Zof w0 N RL) wr w):=⟨h.wm,h.fr.mono fun k hk hz=>hz.resolve_right (by omega)⟩
structure RnX(w0 wr:World)(N bw mb:Nat)(ds:List MapD)(p:Nat)(RL:RQ)(W:HW)(s:ST)(bx:Nat)(x:XI)(w:World):Prop where
 r:RnS w0 wr N bw mb ds p RL W s 0 0 w
 x:XB w bx x
 lx:wr.heap.size+1<bx
theorem RnX.start{w0 wr w:World}{N bw mb ds p RL W s}(h:RnS w0 wr N bw mb ds p RL W s 0 0 w)(t):RnX w0 wr N bw mb ds p RL W s w.heap.size XI.zero (w.alloc (.cells XI.zero.cells.toArray t)):=⟨h.no (fr_alloc _ _),XB.new w _ _,h.st.lt⟩
theorem RnX.no{w0 wr w w' N bw mb ds p RL W s bx x}(h:RnX w0 wr N bw mb ds p RL W s bx x w)(hf:Fr No w w'):RnX w0 wr N bw mb ds p RL W s bx x w':=⟨h.r.no hf,h.x.fr hf id,h.lx⟩
theorem RnX.store{w0 wr w N bw mb ds p RL W s bx x}(h:RnX w0 wr N bw mb ds p RL W s bx x w){y:XI}{ops rest}{op:Oper}{a:Act}{Q}(hgd:op.guard=none)(px py)(ho:op.op= .store 48 px py)(hx:a.eval px= .pointer (some ⟨bx,0,none⟩))(hy:a.eval py=y.agg)(k:∀W',Hid (RnX w0 wr N bw mb ds p RL W s bx y W')→wpList prog ops Q rest (a.put op.dst undef) W'):wpList prog ops Q (op::rest) a w:=
 h.x.store hgd px py ho hx hy fun W' h1 h2=>k W' ⟨h.r.own h.lx h2,h1,h.lx⟩
theorem OB.there{w:World}{b a k}(h:OB w b a k):w.there b 0 2:=fun j hj=>by
 rw [Nat.zero_add]
 refine ⟨?_,h.open_ j⟩
 match j,hj with
 |0,_=>rw [h.at.1];rfl
 |1,_=>rw [h.at.2];rfl
theorem WM.of{w0 wr:World}{bw b mb p ds RL D S m A H T mv ov dv}(h:WAt w0 bw b mb ds p RL D S m A H T mv ov dv wr)(ok:HWok ds ⟨D,S,m⟩):WM w0 wr.heap.size bw mb ds p RL ⟨D,S,m⟩ wr:=
 ⟨⟨b,A,H,T,mv,ov,dv,h,fun k hk=>⟨h.lt k hk,id⟩,fun k hk=>⟨h.ltv k hk,id⟩,fun _ _=>Nat.zero_le _⟩,ok,⟨id,Nat.zero_le _⟩,World.block_lt_of_cell? wr _ h.c0,Nat.le_refl _⟩
theorem WM.ofQ{w0 wr:World}{bw b mb p lo:Nat}{ds:List MapD}{L:List Reg}{q:Nat→Prop}{D:List Int}{S:List Tab}{m:List Reg}{A H T:Nat→Prop}{mv ov dv:Value}(h:WAt w0 bw b mb ds p L D S m A H T mv ov dv wr)(ok:HWok ds ⟨D,S,m⟩)(nb:¬q bw∧lo≤bw)(n1:∀k,A k∨H k∨T k→¬q k)(n2:∀k,mv.ownBlock=some k∨ov.ownBlock=some k∨dv.ownBlock=some k→¬q k)(n3:∀k,H k∨T k→lo≤k):WM w0 wr.heap.size bw mb ds p ⟨L,q,lo⟩ ⟨D,S,m⟩ wr:=
 ⟨⟨b,A,H,T,mv,ov,dv,h,fun k hk=>⟨h.lt k hk,n1 k hk⟩,fun k hk=>⟨h.ltv k hk,n2 k hk⟩,n3⟩,ok,nb,World.block_lt_of_cell? wr _ h.c0,Nat.le_refl _⟩
theorem WM.copy{w0 wr:World}{N bw mb p:Nat}{ds:List MapD}{RL:RQ}{W:HW}(h:WM w0 N bw mb ds p RL W wr)(hok:MemOk W.m):
  Calls prog 72 #[.pointer (some ⟨bw,0,none⟩)] wr fun e w'=>∃bw' mb',e= .returned (.pointer (some ⟨bw',0,none⟩))∧Hid (WM w0 w'.heap.size bw' mb' ds p ⟨RL.L,fun k=>N≤k∧k<wr.heap.size,wr.heap.size⟩ W w')∧Fr No wr w':=by
 have ht:=h.tabs
 have hh:=holdsB_of ht.1 ht.2.1 ht.2.2.2
 obtain ⟨b,A,H,T,mv,ov,dv,hw,hz,hv⟩:=h.ex
 refine (wcopy_any2 hw hok hh).mono ?_
 rintro e w' ⟨he,hq⟩
 obtain ⟨b2,mb2,A2,H2,T2,hw2,hf,hn,hA⟩:=hq.out
 refine ⟨_,mb2,he,Lib.hid (WM.ofQ hw2 h.ok ⟨fun hk=>by have:=hk.2;omega,Nat.le_refl _⟩ ?_ ?_ hn),hf⟩
 ·rintro k (hk|hk|hk) ⟨q1,q2⟩
  ·rcases hA k hk with h1|h1
   ·have:=(hz k (.inl h1)).1;omega
   ·omega
  ·have:=hn k (.inl hk);omega
  ·have:=hn k (.inr hk);omega
 ·rintro k hk ⟨q1,q2⟩
  have:=(hv.1 k hk).1;omega
theorem MemOk.step{ds:List MapD}{W:HW}(h:MemOk W.m)(hS:∀t∈W.S,t.ok)(hw:WF W.m)(hm:HoldsM W.S W.m)(x:XI)(next:Nat)(s:ST):MemOk (stepM ds W x next s).2.m:=h.shape (kept_step hS hw hm x next s).shape
theorem item_tr(t:TM):(itemM t).2.tr=t.tr∧(itemM t).2.sq=t.sq:=by
 unfold itemM;split<;>exact ⟨rfl,rfl⟩
theorem jcc_tr(x:XI)(t:TM):(jccM x t).2.tr=t.tr∧(jccM x t).2.sq=t.sq:=by
 unfold jccM;split
 ·exact item_tr t
 ·exact ⟨rfl,rfl⟩
theorem back_tr(x:XI)(p:PM)(t:TM):(backM x p t).2.tr=t.tr∧(backM x p t).2.sq=t.sq:=by
 unfold backM;split
 ·exact ⟨rfl,rfl⟩
 ·exact item_tr t
theorem tell_len(x:XI)(s:ST)(t:TM):(tellM x s t).tr.length≤t.tr.length+2∧(tellM x s t).sq=t.sq:=by
 unfold tellM
 refine ⟨?_,rfl⟩
 simp only [List.length_append,List.length_cons]
 split<;>simp
theorem go_len{ds:List MapD}{code:List UInt8}:∀(n:Nat) (p:PM) (t:TM),(goM ds code n p t).tr.length≤t.tr.length+2*n∧(goM ds code n p t).sq≤t.sq+n
 |0,_,_=>⟨Nat.le_refl _,Nat.le_refl _⟩
 |n+1,p,t=>by
  unfold goM
  split
  ·exact ⟨by omega,by omega⟩
  ·rename_i x next _
   split
   ·exact ⟨by simp only [List.length_append,List.length_cons,List.length_nil];omega,by show t.sq+1≤_;omega⟩
   ·have h1:=tell_len x p.s {t with sq:=t.sq+1}
    have h2:=jcc_tr x (tellM x p.s {t with sq:=t.sq+1})
    generalize jccM x (tellM x p.s {t with sq:=t.sq+1})=j at*
    have e1:j.2.tr.length≤t.tr.length+2:=by rw [h2.1];exact h1.1
    have e2:j.2.sq=t.sq+1:=by rw [h2.2];exact h1.2
    clear h1 h2
    dsimp only
    split
    ·exact ⟨Nat.le_trans (go_len n _ j.2).1 (by omega),Nat.le_trans (go_len n _ j.2).2 (by omega)⟩
    ·have h3:=back_tr x p j.2
     generalize backM x p j.2=b at*
     have e3:b.2.tr.length≤t.tr.length+2:=by rw [h3.1];exact e1
     have e4:b.2.sq=t.sq+1:=by rw [h3.2];exact e2
     clear h3
     split
     ·split
      ·exact ⟨by omega,by omega⟩
      ·exact ⟨Nat.le_trans (go_len n _ b.2).1 (by omega),Nat.le_trans (go_len n _ b.2).2 (by omega)⟩
     ·split
      ·exact ⟨by omega,by omega⟩
      ·exact ⟨Nat.le_trans (go_len n _ b.2).1 (by omega),Nat.le_trans (go_len n _ b.2).2 (by omega)⟩
theorem wrong_len{ds:List MapD}{code:List UInt8}(window:Nat)(p:PM)(x:XI)(next:Nat)(t:TM):(wrongM ds code window p x next t).tr.length≤t.tr.length+4*window∧(wrongM ds code window p x next t).sq≤t.sq+2*window:=by
 unfold wrongM
 have h2:=jcc_tr x t
 generalize jccM x t=j at*
 dsimp only
 have h3:∀c:Bool,(if c=true then goM ds code window {p with s:={p.s with pc:=otherM x next p.s}} j.2 else j.2).tr.length≤t.tr.length+2*window∧(if c=true then goM ds code window {p with s:={p.s with pc:=otherM x next p.s}} j.2 else j.2).sq≤t.sq+window:=fun c=>by
  cases c
  ·exact ⟨by rw [if_neg (by decide),h2.1];omega,by rw [if_neg (by decide),h2.2];omega⟩
  ·have:=go_len (ds:=ds) (code:=code) window {p with s:={p.s with pc:=otherM x next p.s}} j.2
   rw [h2.1,h2.2] at this
   exact ⟨by rw [if_pos rfl];exact this.1,by rw [if_pos rfl];exact this.2⟩
 have h4:=h3 j.1
 generalize (if j.1=true then goM ds code window {p with s:={p.s with pc:=otherM x next p.s}} j.2 else j.2)=t1 at*
 have h5:=back_tr x p t1
 generalize backM x p t1=b at*
 split
 ·split
  ·exact ⟨by rw [h5.1];omega,by rw [h5.2];omega⟩
  ·rename_i s _
   have:=go_len (ds:=ds) (code:=code) window {p with s:=s} b.2
   rw [h5.1,h5.2] at this
   exact ⟨by omega,by omega⟩
 ·exact ⟨by rw [h5.1];omega,by rw [h5.2];omega⟩
end Go.Proofs.YtfmcmfiebehhiaaGreatDoor

