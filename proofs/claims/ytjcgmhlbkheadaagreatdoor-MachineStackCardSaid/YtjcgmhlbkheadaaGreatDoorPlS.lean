/- What MachineStack's code comes to, plain. -/
import Derived.Test.YtjcgmhlbkheadaaGreatDoorPlC
set_option linter.all false
set_option linter.unusedVariables false
set_option linter.unusedSimpArgs false
namespace Go.Proofs.YtjcgmhlbkheadaaGreatDoor
open Go.RowKit
theorem mwriteN_none(L:List Nat)(hL:L.length=16)(v:Nat)(a:Int)(ha:262000≤a∧a<262144):mwrite (memN L) a 8 v=(memN L,70):=by
 unfold mwrite
 rw [if_pos sizeOk8,spotN L hL a ha.1,if_neg (by omega)]
def pushX(d:Int):XI:=⟨17,0,0,0,false,false,d,0,0,0,0⟩
def popX(d:Int):XI:=⟨18,0,0,0,false,false,d,0,0,0,0⟩
theorem step_push{ds:List MapD}{D:List Int}{S:List Tab}{L:List Nat}{d:Int}{next q:Nat}{s:ST}(hL:L.length=16)(hv:validM (pushX d)=true)(h4:s.reg 4=262144+8*(q+1))(hq:q<16):
  stepM ds ⟨D,S,memN L⟩ (pushX d) next s=(.ok (ST.set {s with pc:=next} 4 (262144+8*q)),⟨D,S,memN (L.set q (s.reg d.toNat))⟩):=by
 have ht:touchM (pushX d) s=(262144+8*q,8):=by
  unfold touchM
  rw [if_neg (by rw [hv];simp)]
  simp only [pushX]
  simp only [Int.reduceEq,↓reduceIte,or_self,or_false,false_or,or_true,true_or]
  rw [h4]
  unfold farM
  congr 1
  omega
 unfold stepM
 rw [if_neg (by rw [hv];simp)]
 simp only [ht]
 simp only [pushX]
 simp only [Int.reduceEq,↓reduceIte,or_self,or_false,false_or,or_true,true_or]
 rw [mwriteN L hL q _ hq _ (by omega)]
 rfl
theorem step_push_none{ds:List MapD}{D:List Int}{S:List Tab}{L:List Nat}{d:Int}{next:Nat}{s:ST}(hL:L.length=16)(hv:validM (pushX d)=true)(h4:s.reg 4=262144):
  (stepM ds ⟨D,S,memN L⟩ (pushX d) next s).1= .error 70:=by
 have ht:touchM (pushX d) s=(262136,8):=by
  unfold touchM
  rw [if_neg (by rw [hv];simp)]
  simp only [pushX]
  simp only [Int.reduceEq,↓reduceIte,or_self,or_false,false_or,or_true,true_or]
  rw [h4]
  rfl
 unfold stepM
 rw [if_neg (by rw [hv];simp)]
 simp only [ht]
 simp only [pushX]
 simp only [Int.reduceEq,↓reduceIte,or_self,or_false,false_or,or_true,true_or]
 rw [mwriteN_none L hL _ _ (by decide)]
 rfl
theorem step_pop{ds:List MapD}{D:List Int}{S:List Tab}{L:List Nat}{d:Int}{next q:Nat}{s:ST}(hL:L.length=16)(hv:validM (popX d)=true)(h4:s.reg 4=262144+8*q)(hq:q<16)(hl:L.getD q 0<18446744073709551616):
  stepM ds ⟨D,S,memN L⟩ (popX d) next s=(.ok (ST.set (ST.set {s with pc:=next} 4 (262144+8*(q+1))) d.toNat (L.getD q 0)),⟨D,S,memN L⟩):=by
 have ht:touchM (popX d) s=(262144+8*q,8):=by
  unfold touchM
  rw [if_neg (by rw [hv];simp)]
  simp only [popX]
  simp only [Int.reduceEq,↓reduceIte,or_self,or_false,false_or,or_true,true_or]
  rw [h4]
 have hf:farM (s.reg 4) 8=262144+8*(q+1):=by rw [h4];unfold farM;omega
 unfold stepM
 rw [if_neg (by rw [hv];simp)]
 simp only [ht]
 simp only [popX]
 simp only [Int.reduceEq,↓reduceIte,or_self,or_false,false_or,or_true,true_or]
 rw [mreadN L hL q hq _ (by omega) hl,hf]
 rfl
theorem run_bad{ds:List MapD}{xs:List XI}{i:Nat}{x:XI}{W:HW}{s:ST}{n k:Nat}{e:Int}(hx:xs[i]? =some x)(hg:GoodI x)(hl:(xs.flatMap encB).length≤1000000)(hp:s.pc=atC xs i)
  (hs:(stepM ds W x (atC xs (i+1)) s).1= .error e):(runL ds (xs.flatMap encB) (n+1) k W s).1= .error e:=by
 have h1:s.pc≠10485760:=by
  have h2:=flat_at hx
  have h3:((xs.take i).flatMap encB).length≤(xs.flatMap encB).length:=by rw [h2,List.length_append];omega
  rw [hp];unfold atC;omega
 unfold runL
 rw [if_neg h1,hp,fetch_at hx hg hl]
 dsimp only
 generalize stepM ds W x (atC xs (i+1)) s=q at*
 obtain ⟨q1,q2⟩:=q
 simp only at hs
 subst hs
 rfl
theorem getD_set(L:List Nat)(i v k:Nat)(hi:i<L.length):(L.set i v).getD k 0=if k=i then v else L.getD k 0:=by
 simp only [List.getD_eq_getElem?_getD]
 by_cases e:i=k
 ·subst e
  rw [if_pos rfl,List.getElem?_set_self hi]
  rfl
 ·rw [if_neg (fun q=>e q.symm),List.getElem?_set_ne e]
def rg(k:Nat):Nat:= [0,1,12,15].getD k 0
theorem rg_lt:∀k:Nat,k<4→rg k<16∧rg k≠4∧rg k≠3:=by decide
theorem rg_inj:∀k:Nat,k<4→∀m:Nat,m<4→(rg k=rg m↔k=m):=by decide
def pushL(l:List Nat):List XI:=l.flatMap fun v=> [absX 3 (sg v),pushX 3]
def popL:Nat→List XI
 |0=> []
 |i+1=>popX (rg (i%4):Nat)::popL i
def stackL(l:List Nat):List XI:=pushL l++(popL l.length++ [retX])
theorem pushL_len(l:List Nat):(pushL l).length=2*l.length:=by
 induction l with
 |nil=>rfl
 |cons v l ih=>unfold pushL at*;rw [List.flatMap_cons,List.length_append,ih];simp only [List.length_cons,List.length_nil];omega
theorem popL_len(n:Nat):(popL n).length=n:=by
 induction n with
 |zero=>rfl
 |succ n ih=>unfold popL;rw [List.length_cons,ih]
theorem pushL_at(l:List Nat)(j:Nat)(h:j<l.length)(r:List XI):(pushL l++r)[2*j]? =some (absX 3 (sg l[j]))∧(pushL l++r)[2*j+1]? =some (pushX 3):=by
 induction l generalizing j with
 |nil=>simp at h
 |cons v l ih=>
  have e:pushL (v::l)++r=absX 3 (sg v)::pushX 3::(pushL l++r):=rfl
  rw [e]
  cases j with
  |zero=>exact ⟨rfl,rfl⟩
  |succ j=>
   have:=ih j (by simpa using h)
   rw [show 2*(j+1)=2*j+1+1 by omega]
   simpa using this
theorem popL_at(n i:Nat)(h:i<n)(r:List XI):(popL n++r)[n-1-i]? =some (popX (rg (i%4):Nat)):=by
 induction n with
 |zero=>omega
 |succ n ih=>
  have e:popL (n+1)++r=popX (rg (n%4):Nat)::(popL n++r):=rfl
  rw [e]
  by_cases c:i=n
  ·subst c
   rw [show i+1-1-i=0 by omega]
   rfl
  ·rw [show n+1-1-i=(n-1-i)+1 by omega,List.getElem?_cons_succ]
   exact ih (by omega)
theorem stack_pop(l:List Nat)(i:Nat)(h:i<l.length):(stackL l)[2*l.length+(l.length-1-i)]? =some (popX (rg (i%4):Nat)):=by
 unfold stackL
 rw [←pushL_len l,List.getElem?_append_right (by omega),Nat.add_sub_cancel_left]
 exact popL_at _ _ h _
theorem stack_ret(l:List Nat):(stackL l)[3*l.length]? =some retX:=by
 have h1:=pushL_len l
 have h2:=popL_len l.length
 unfold stackL
 rw [List.getElem?_append_right (by omega),List.getElem?_append_right (by omega),show 3*l.length-(pushL l).length-(popL l.length).length=0 by omega]
 rfl
theorem pop_good:∀k:Nat,k<4→gdB (popX (rg k:Nat))=true:=by decide+kernel
theorem push_good:gdB (pushX 3)=true:=by decide+kernel
theorem stack_good(l:List Nat)(hl:∀v∈l,v<18446744073709551616):∀x∈stackL l,validM x=true∧GoodI x∧(encB x).length≤10:=by
 intro x hx
 unfold stackL pushL at hx
 rw [List.mem_append,List.mem_append,List.mem_flatMap,List.mem_singleton] at hx
 rcases hx with ⟨v,hv,h⟩|h|rfl
 ·rcases List.mem_cons.1 h with rfl|h
  ·exact abs_ok (.inr (.inr rfl)) (sg_ok (hl v hv)).1
  ·rw [List.mem_singleton] at h
   rw [h]
   exact gdB_is push_good
 ·have:∀n,x∈popL n→∃k,k<4∧x=popX (rg k:Nat):=by
   intro n
   induction n with
   |zero=>intro h;cases h
   |succ n ih=>
    intro h
    rcases List.mem_cons.1 h with rfl|h
    ·exact ⟨n%4,by omega,rfl⟩
    ·exact ih h
  obtain ⟨k,hk,rfl⟩:=this _ h
  exact gdB_is (pop_good k hk)
 ·exact gdB_is ret_good
structure StP(l:List Nat)(j:Nat)(s:ST)(L:List Nat):Prop where
 r16:s.r.length=16
 sp:s.reg 4=262144+8*(15-j)
 pc:s.pc=atC (stackL l) (2*j)
 l16:L.length=16
 slot:∀i,i<j→L.getD (14-i) 0=l.getD i 0
 halt:L.getD 15 0=10485760
 zero:∀k,k<4→s.reg (rg k)=0
theorem getD_lt{l:List Nat}(hl:∀v∈l,v<18446744073709551616)(i:Nat):l.getD i 0<18446744073709551616:=by
 rw [List.getD_eq_getElem?_getD]
 cases e:l[i]? with
 |none=>simp
 |some v=>exact hl v (List.mem_of_getElem? e)
theorem stack_len{l:List Nat}(hl:∀v∈l,v<18446744073709551616)(hn:l.length≤20):((stackL l).flatMap encB).length≤1000000:=by
 have h:=flat_le (stackL l) fun x hx=>(stack_good l hl x hx).2.2
 have h1:=pushL_len l
 have h2:=popL_len l.length
 have:(stackL l).length=3*l.length+1:=by unfold stackL;rw [List.length_append,List.length_append,h1,h2,List.length_singleton];omega
 omega
theorem stack_abs{l:List Nat}(hl:∀v∈l,v<18446744073709551616)(hn:l.length≤20){D:List Int}{S:List Tab}{j:Nat}{s:ST}{L:List Nat}(hj:j<l.length)(h:StP l j s L)(n k:Nat):
  ∃s',runL [] ((stackL l).flatMap encB) (n+1) k ⟨D,S,memN L⟩ s=runL [] ((stackL l).flatMap encB) n (k+1) ⟨D,S,memN L⟩ s'∧s'.r.length=16∧s'.reg 4=s.reg 4∧s'.reg 3=l.getD j 0∧s'.pc=atC (stackL l) (2*j+1)∧∀k,k<4→s'.reg (rg k)=0:=by
 have hx:=(pushL_at l j hj (popL l.length++ [retX])).1
 have hg:=stack_good l hl _ (List.mem_of_getElem? hx)
 have hv:l[j]=l.getD j 0:=by rw [List.getD_eq_getElem?_getD,List.getElem?_eq_getElem hj];rfl
 have h16:({s with pc:=atC (stackL l) (2*j+1)}:ST).r.length=16:=h.r16
 refine ⟨_,run_one hx hg.2.1 (stack_len hl hn) h.pc (step_abs hg.1 (sg_ok (hl _ (List.getElem_mem hj))).2),?_,?_,?_,rfl,fun k hk=> ?_⟩
 ·rw [set_len];exact h16
 ·rw [reg_set h16 (by decide),if_neg (by decide)];rfl
 ·rw [reg_set h16 (by decide),if_pos (by rfl),hv]
 ·rw [reg_set h16 (by decide),if_neg (show¬rg k=Int.toNat 3 from (rg_lt k hk).2.2)]
  exact h.zero k hk
theorem stack_push{l:List Nat}(hl:∀v∈l,v<18446744073709551616)(hn:l.length≤20){D:List Int}{S:List Tab}{j:Nat}{s:ST}{L:List Nat}(hj:j<l.length)(hj2:j≤14)(h:StP l j s L)(n k:Nat):
  ∃s' L',runL [] ((stackL l).flatMap encB) (n+2) k ⟨D,S,memN L⟩ s=runL [] ((stackL l).flatMap encB) n (k+2) ⟨D,S,memN L'⟩ s'∧StP l (j+1) s' L':=by
 obtain ⟨s1,e1,r1,g4,g3,p1,z1⟩:=stack_abs hl hn (D:=D) (S:=S) hj h (n+1) k
 have hx:=(pushL_at l j hj (popL l.length++ [retX])).2
 have hg:=gdB_is push_good
 have hst:=step_push (ds:= []) (D:=D) (S:=S) (next:=atC (stackL l) (2*j+1+1)) (q:=14-j) h.l16 hg.1 (by rw [g4,h.sp];omega) (by omega)
 have h16:({s1 with pc:=atC (stackL l) (2*j+1+1)}:ST).r.length=16:=r1
 refine ⟨_,_,e1.trans (run_one hx hg.2.1 (stack_len hl hn) p1 hst),?_,?_,?_,?_,fun i hi=> ?_,?_,fun k hk=> ?_⟩
 ·rw [set_len];exact h16
 ·rw [reg_set h16 (by decide),if_pos rfl];omega
 ·show atC (stackL l) (2*j+1+1)=_
  rw [show 2*j+1+1=2*(j+1) by omega]
 ·rw [List.length_set];exact h.l16
 ·rw [getD_set _ _ _ _ (by rw [h.l16];omega)]
  by_cases c:i=j
  ·subst c
   rw [if_pos rfl]
   exact g3
  ·rw [if_neg (by omega)]
   exact h.slot i (by omega)
 ·rw [getD_set _ _ _ _ (by rw [h.l16];omega),if_neg (by omega)]
  exact h.halt
 ·rw [reg_set h16 (by decide),if_neg (rg_lt k hk).2.1]
  exact z1 k hk
theorem stack_pushes{l:List Nat}(hl:∀v∈l,v<18446744073709551616)(hn:l.length≤20){D:List Int}{S:List Tab}{s:ST}{L:List Nat}(h:StP l 0 s L)(n k:Nat):∀m,m≤l.length→m≤15→
  ∃s' L',runL [] ((stackL l).flatMap encB) (n+2*m) k ⟨D,S,memN L⟩ s=runL [] ((stackL l).flatMap encB) n (k+2*m) ⟨D,S,memN L'⟩ s'∧StP l m s' L':=by
 intro m
 induction m generalizing n with
 |zero=>intro _ _;exact ⟨s,L,rfl,h⟩
 |succ m ih=>
  intro h1 h2
  obtain ⟨s1,L1,e1,q1⟩:=ih (n+2) (by omega) (by omega)
  obtain ⟨s2,L2,e2,q2⟩:=stack_push hl hn (D:=D) (S:=S) (by omega) (by omega) q1 n (k+2*m)
  refine ⟨s2,L2,?_,q2⟩
  rw [show n+2*(m+1)=n+2+2*m by omega,e1,e2,show k+2*m+2=k+2*(m+1) by omega]
def nextC(i k:Nat):Nat:=i+(k+4-i%4)%4
structure StQ(l:List Nat)(i:Nat)(s:ST)(L:List Nat):Prop where
 r16:s.r.length=16
 sp:s.reg 4=262144+8*(15-i)
 pc:s.pc=atC (stackL l) (2*l.length+(l.length-i))
 got:∀k,k<4→s.reg (rg k)=if nextC i k<l.length then l.getD (nextC i k) 0 else 0
theorem stack_pop1{l:List Nat}(hl:∀v∈l,v<18446744073709551616)(hn:l.length≤20){D:List Int}{S:List Tab}{i:Nat}{s:ST}{L:List Nat}(h15:l.length≤15)(hi:i<l.length)(l16:L.length=16)(slot:∀i,i<l.length→L.getD (14-i) 0=l.getD i 0)(h:StQ l (i+1) s L)(n k:Nat):
  ∃s',runL [] ((stackL l).flatMap encB) (n+1) k ⟨D,S,memN L⟩ s=runL [] ((stackL l).flatMap encB) n (k+1) ⟨D,S,memN L⟩ s'∧StQ l i s' L:=by
 have hx:=stack_pop l i hi
 have hk4:i%4<4:=by omega
 have hg:=gdB_is (pop_good (i%4) hk4)
 have hv:=slot i hi
 have hlt:=getD_lt hl i
 have hst:=step_pop (ds:= []) (D:=D) (S:=S) (next:=atC (stackL l) (2*l.length+(l.length-1-i)+1)) (q:=14-i) l16 hg.1 (by rw [h.sp];omega) (by omega) (by rw [hv];exact hlt)
 have h16:({s with pc:=atC (stackL l) (2*l.length+(l.length-1-i)+1)}:ST).r.length=16:=h.r16
 obtain ⟨g1,g2,g3⟩:=rg_lt (i%4) hk4
 refine ⟨_,run_one hx hg.2.1 (stack_len hl hn) (h.pc.trans (by rw [show l.length-(i+1)=l.length-1-i by omega])) hst,?_,?_,?_,fun k hk=> ?_⟩
 ·rw [set_len,set_len];exact h16
 ·rw [reg_set (by rw [set_len];exact h16) (by simpa using g1),if_neg (by simp;omega),reg_set h16 (by decide),if_pos rfl];omega
 ·show atC (stackL l) (2*l.length+(l.length-1-i)+1)=_
  rw [show 2*l.length+(l.length-1-i)+1=2*l.length+(l.length-i) by omega]
 ·rw [reg_set (by rw [set_len];exact h16) (by simpa using g1),Int.toNat_natCast,reg_set h16 (by decide),if_neg (rg_lt k hk).2.1,hv]
  by_cases c:k=i%4
  ·rw [if_pos (by rw [c]),if_pos (by unfold nextC;omega),show nextC i k=i by unfold nextC;omega]
  ·rw [if_neg (fun q=>c ((rg_inj k hk _ hk4).1 q))]
   have:=h.got k hk
   rw [show nextC (i+1) k=nextC i k by unfold nextC;omega] at this
   exact this
theorem stack_pops{l:List Nat}(hl:∀v∈l,v<18446744073709551616)(hn:l.length≤20){D:List Int}{S:List Tab}{s:ST}{L:List Nat}(h15:l.length≤15)(l16:L.length=16)(slot:∀i,i<l.length→L.getD (14-i) 0=l.getD i 0)(n:Nat):∀(i k:Nat) (s:ST),i≤l.length→StQ l i s L→
  ∃s',runL [] ((stackL l).flatMap encB) (n+i) k ⟨D,S,memN L⟩ s=runL [] ((stackL l).flatMap encB) n (k+i) ⟨D,S,memN L⟩ s'∧StQ l 0 s' L:=by
 intro i
 induction i with
 |zero=>intro k s _ h;exact ⟨s,rfl,h⟩
 |succ i ih=>
  intro k s hi h
  obtain ⟨s1,e1,q1⟩:=stack_pop1 hl hn (D:=D) (S:=S) h15 (by omega) l16 slot h (n+i) k
  obtain ⟨s2,e2,q2⟩:=ih (k+1) s1 (by omega) q1
  refine ⟨s2,?_,q2⟩
  rw [show n+(i+1)=n+i+1 by omega,e1,e2,show k+1+i=k+(i+1) by omega]
theorem stack_start{l:List Nat}(hl:∀v∈l,v<18446744073709551616)(hn:l.length≤20):∃s L,beginM (startW [])=(.ok s,⟨[], [],memN L⟩)∧StP l 0 s L:=by
 refine ⟨_,_,by unfold startW;rw [memN_start];exact begin_N [] [] _ rfl,by decide,by decide,?_,by decide,fun i hi=>by omega,by decide,by decide⟩
 unfold atC
 simp
theorem stack_run{l:List Nat}(hl:∀v∈l,v<18446744073709551616)(hn:l.length≤20)(h15:l.length≤15):∃s,(runM [] ((stackL l).flatMap encB) 100 (startW [])).1= .ok (3*l.length+1,s)∧s.reg 4=262272∧∀k,k<4→s.reg (rg k)=if k<l.length then l.getD k 0 else 0:=by
 obtain ⟨s0,L0,e0,q0⟩:=stack_start hl hn
 obtain ⟨s1,L1,e1,q1⟩:=stack_pushes hl hn (D:= []) (S:= []) q0 (100-2*l.length) 0 l.length (Nat.le_refl _) h15
 have hQ:StQ l l.length s1 L1:=⟨q1.r16,q1.sp,by rw [Nat.sub_self];exact q1.pc,fun k hk=>by rw [if_neg (by unfold nextC;omega)];exact q1.zero k hk⟩
 obtain ⟨s2,e2,q2⟩:=stack_pops hl hn (D:= []) (S:= []) (s:=s1) h15 q1.l16 q1.slot (100-3*l.length) l.length (0+2*l.length) s1 (Nat.le_refl _) hQ
 have hg:=gdB_is ret_good
 have hst:=step_ret (ds:= []) (D:= []) (S:= []) (next:=atC (stackL l) (3*l.length+1)) (q:=15) q1.l16 q2.sp (by decide) (by rw [q1.halt];decide)
 have e3:=run_one (n:=99-3*l.length) (k:=0+2*l.length+l.length) (stack_ret l) hg.2.1 (stack_len hl hn) (q2.pc.trans (by rw [show 2*l.length+(l.length-0)=3*l.length by omega])) hst
 have h16:({s2 with pc:=atC (stackL l) (3*l.length+1)}:ST).r.length=16:=q2.r16
 refine ⟨{(ST.set {s2 with pc:=atC (stackL l) (3*l.length+1)} 4 (262144+8*(15+1))) with pc:=L1.getD 15 0},?_,?_,fun k hk=> ?_⟩
 ·unfold runM
  rw [e0]
  dsimp only
  rw [show (100:Int).toNat=100-2*l.length+2*l.length by simp;omega,e1,show 100-2*l.length=100-3*l.length+l.length by omega,e2,show 100-3*l.length=99-3*l.length+1 by omega,e3,halt_run q1.halt,
   show 0+2*l.length+l.length+1=3*l.length+1 by omega]
 ·show ST.reg (ST.set {s2 with pc:=atC (stackL l) (3*l.length+1)} 4 (262144+8*(15+1))) 4=262272
  rw [reg_set h16 (by decide),if_pos rfl]
 ·show ST.reg (ST.set {s2 with pc:=atC (stackL l) (3*l.length+1)} 4 (262144+8*(15+1))) (rg k)=_
  rw [reg_set h16 (by decide),if_neg (rg_lt k hk).2.1]
  have:=q2.got k hk
  rw [show nextC 0 k=k by unfold nextC;omega] at this
  exact this
theorem stack_full{l:List Nat}(hl:∀v∈l,v<18446744073709551616)(hn:l.length≤20)(h15:15<l.length):(runM [] ((stackL l).flatMap encB) 100 (startW [])).1= .error 70:=by
 obtain ⟨s0,L0,e0,q0⟩:=stack_start hl hn
 obtain ⟨s1,L1,e1,q1⟩:=stack_pushes hl hn (D:= []) (S:= []) q0 70 0 15 (by omega) (by omega)
 obtain ⟨s2,e2,r2,g4,g3,p2,z2⟩:=stack_abs hl hn (D:= []) (S:= []) h15 q1 69 (0+2*15)
 have hx:=(pushL_at l 15 h15 (popL l.length++ [retX])).2
 have hg:=gdB_is push_good
 unfold runM
 rw [e0]
 dsimp only
 rw [show (100:Int).toNat=70+2*15 by rfl,e1,e2]
 exact run_bad (n:=68) hx hg.2.1 (stack_len hl hn) p2 (step_push_none q1.l16 hg.1 (by rw [g4,q1.sp]))
end Go.Proofs.YtjcgmhlbkheadaaGreatDoor
