/- firewalllaw13.MachineStack: what is pushed is popped. -/
import Derived.Test.YtjcgmhlbkheadaaGreatDoorNa0
import Derived.Test.YtjcgmhlbkheadaaGreatDoorPlS
import Derived.Test.YtjcgmhlbkheadaaGreatDoorCore6
import Derived.Laws.AppendOwnNone
set_option linter.all false
set_option linter.unusedVariables false
set_option linter.unusedSimpArgs false
set_option maxRecDepth 100000
set_option maxHeartbeats 8000000
namespace Go.Proofs.YtjcgmhlbkheadaaGreatDoor
open Go.RowKit
theorem infoL_x:(Tryz.prog.info? 27).map (fun i=>(i.zero,i.size,i.bytes))=some (some XI.zero.agg,11,72):=by kernel_rfl
theorem gath_stepm{w wr w':World}{t:TypeId}{size n m:Nat}{xs news:List Value}{v v':Value}(h:Gath w t size n xs v wr)(ho:w'.ownsRow w.heap.size t size v' (n+m) (xs++news))(hf:Fr (OwnOf v) wr w'):Gath w t size (n+m) (xs++news) v' w':=
 ⟨((h.fr.any.trans (hf.mono fun k _ hk=>OwnOf.ge h.own hk)):Fr (From w) w w').ours,ho⟩
theorem gath_xs{w wr:World}{n:Nat}{l:List XI}{v:Value}(h:Gath w 27 11 n (xflat l) v wr)(hn:l.length=n):XsIn wr v l:=by
 rcases h.cells with ⟨h0,_,a,c,hv⟩|⟨g,cap,hv,hc,_⟩
 ·exact .inl ⟨List.eq_nil_of_length_eq_zero (by omega),a,c,hv⟩
 ·exact .inr ⟨g,0,cap,by rw [hn];exact hv,hc⟩
theorem xflat_app(a b:List XI):xflat (a++b)=xflat a++xflat b:=by unfold xflat;rw [List.flatMap_append]
theorem xflat_one(l:List XI):∀u∈xflat l,u.oneCell'=true:=by
 intro u hu
 unfold xflat at hu
 obtain ⟨x,_,hx⟩:=List.mem_flatMap.1 hu
 simp only [XI.cells,List.mem_cons,List.not_mem_nil,or_false] at hx
 rcases hx with rfl|rfl|rfl|rfl|rfl|rfl|rfl|rfl|rfl|rfl|rfl<;>rfl
theorem src_many(w:World)(cs:List Value)(t:TypeId)(n:Nat):SrcAt (w.alloc (.cells cs.toArray t)) (.slice (some ⟨w.heap.size,0,none⟩) n n) n cs:=by
 refine .inr ⟨_,_,rfl,?_⟩
 exact World.news_of_block (cs:=cs.toArray) (by simpa using heap_alloc_new w (.cells cs.toArray t))
def goPush(l:List Nat):List XI:=l.flatMap fun v=> [absR 3 (sg v),pushX 3]
def goS(l:List Nat):List XI:=goPush l++(popL l.length++ [retX])
theorem put_pop:∀k:Nat,k<4→putM (popX (rg k:Nat))=popX (rg k:Nat):=by decide+kernel
theorem put_rest:putM (pushX 3)=pushX 3∧putM retX=retX:=by decide+kernel
theorem goS_put(l:List Nat):(goS l).map putM=stackL l:=by
 unfold goS stackL
 rw [List.map_append,List.map_append]
 have h1:(goPush l).map putM=pushL l:=by
  induction l with
  |nil=>rfl
  |cons v l ih=>
   unfold goPush pushL at*
   rw [List.flatMap_cons,List.flatMap_cons,List.map_append,ih]
   simp only [List.map_cons,List.map_nil,put_abs 3 (.inr (.inr rfl)),put_rest.1]
 have h2:∀n,(popL n).map putM=popL n:=by
  intro n
  induction n with
  |zero=>rfl
  |succ n ih=>unfold popL;rw [List.map_cons,ih,put_pop _ (Nat.mod_lt _ (by decide))]
 rw [h1,h2]
 simp only [List.map_cons,List.map_nil,put_rest.2]
theorem goPush_take(l:List Nat)(k:Nat)(h:k<l.length):goPush (l.take (k+1))=goPush (l.take k)++ [absR 3 (sg l[k]),pushX 3]:=by
 unfold goPush
 rw [List.take_add_one,List.getElem?_eq_getElem h,List.flatMap_append]
 rfl
theorem goPush_len(l:List Nat):(goPush l).length=2*l.length:=by
 induction l with
 |nil=>rfl
 |cons v l ih=>unfold goPush at*;rw [List.flatMap_cons,List.length_append,ih];simp only [List.length_cons,List.length_nil];omega
def popsTo(n i:Nat):List XI:=(popL n).take (n-i)
theorem popsTo_all(n:Nat):popsTo n 0=popL n:=by unfold popsTo;rw [Nat.sub_zero,List.take_of_length_le (by rw [popL_len];exact Nat.le_refl _)]
theorem popsTo_start(n:Nat):popsTo n n= []:=by unfold popsTo;rw [Nat.sub_self,List.take_zero]
theorem popsTo_len(n i:Nat)(h:i≤n):(popsTo n i).length=n-i:=by unfold popsTo;rw [List.length_take,popL_len];omega
theorem popsTo_step(n i:Nat)(h:i<n):popsTo n i=popsTo n (i+1)++ [popX (rg (i%4):Nat)]:=by
 unfold popsTo
 have:=popL_at n i h []
 rw [List.append_nil] at this
 rw [show n-i=(n-(i+1))+1 by omega,List.take_add_one,show n-(i+1)=n-1-i by omega,this]
 rfl
theorem run_appn{P:Program}{w:World}(t ty:TypeId)(base:Nat)(e:TypeId)(i:TypeInfo)(z:Value)(size bytes:Nat)(ht:P.underlying t=some (.slice e))(hi:P.info? e=some i)(hz:i.zero=some z)
  (hsize:i.size=size) (hby:i.bytes=bytes) (hzs:z.cells.size=size) (hsz:0<size)
  (v:Value) (n:Nat) (xs:List Value) (hown:w.ownsRow base e size v n xs) (u:Value) (m:Nat) (news:List Value) (hu:SrcAt w u m news) (hl:news.length=m*size) (h1:∀u∈news,u.oneCell'=true)
  (h63:n+m≤maxLen) (hbytes:(n+m)*bytes≤140737488355328) (hbase:base≤w.heap.size):
  ∃v' w',(Builtin.append_ #[t,t] ty #[v,u]).run P w= .ok v' w'∧w'.ownsRow base e size v' (n+m) (xs++news)∧Fr (OwnOf v) w w'∧(v'.ownBlock=v.ownBlock∨v'.ownBlock=some w.heap.size):=by
 rcases hu with ⟨rfl,rfl,rfl⟩|⟨ad,c,rfl,hnews⟩
 ·exact ⟨v,w,run_append_owned_none (P:=P) (w:=w) base t ty e i size ht hi v n xs hown,by simpa using hown,Fr.refl _ _, .inl rfl⟩
 ·obtain ⟨v',w',hr,h2,h3,_,h5⟩:=run_append_own_at (P:=P) w base t ty e i z size bytes ht hi hz hsize hby hzs hsz v n xs hown ad m c news hl hnews h1 h63 hbytes hbase
  exact ⟨v',w',hr,h2,grown_fr h3,h5⟩
theorem wpList_appn{P:Program}{w:World}{ops:Array Oper}{rest:List Oper}{o:Oper}{a:Act}{Q:Exit→Act→World→Prop}(hgd:o.guard=none)(s x:Operand)(t:TypeId)
  (ho:o.op= .call {callee:= .builtin .append,args:= #[s,x],argTypes:= #[t,t]})
  (base:Nat) (e:TypeId) (i:TypeInfo) (z:Value) (size bytes:Nat) (ht:P.underlying t=some (.slice e)) (hi:P.info? e=some i) (hz:i.zero=some z)
  (hsize:i.size=size) (hby:i.bytes=bytes) (hzs:z.cells.size=size) (hsz:0<size)
  (v:Value) (n:Nat) (xs:List Value) (hs:a.eval s=v) (hown:w.ownsRow base e size v n xs) (u:Value) (m:Nat) (news:List Value) (hx:a.eval x=u) (hu:SrcAt w u m news) (hl:news.length=m*size) (h1:∀u∈news,u.oneCell'=true)
  (h63:n+m≤maxLen) (hbytes:(n+m)*bytes≤140737488355328) (hbase:base≤w.heap.size)
  (h:∀v' w',w'.ownsRow base e size v' (n+m) (xs++news)→Fr (OwnOf v) w w'→(v'.ownBlock=v.ownBlock∨v'.ownBlock=some w.heap.size)→wpList P ops Q rest (a.put o.dst v') w'):wpList P ops Q (o::rest) a w:=
 wpList_plain hgd fun _ hK=>by
  obtain ⟨v',w',hr,h2,h3,h4⟩:=run_appn (P:=P) t o.type base e i z size bytes ht hi hz hsize hby hzs hsz v n xs hown u m news hu hl h1 h63 hbytes hbase
  unfold Oper.wp execOp
  simp only [ho,resolve,invoke,builtin,Sem.run_bind,Sem.run_pure,Result.andThen_ok,List.map_toArray,List.map_cons,List.map_nil,hs,hx,hr]
  exact hK _ _ (h v' w' h2 h3 h4)
def rgL:List Value:= [.int .i64 0, .int .i64 1, .int .i64 12, .int .i64 15]
theorem rgL_at(k:Nat)(h:k<4):rgL[k]? =some (.int .i64 (rg k:Nat)):=
 match k,h with
 |0,_=>rfl
 |1,_=>rfl
 |2,_=>rfl
 |3,_=>rfl
theorem beside_app{w1 w5:World}{B:Nat}{u v':Value}(hB:CellsAt w1 B 0 rgL)(hn:∀k',OwnOf u k'→k'≠B)(hlt:B<w1.heap.size)(fr5:Fr (OwnOf u) w1 w5)(at5:v'.ownBlock=u.ownBlock∨v'.ownBlock=some w1.heap.size):
  CellsAt w5 B 0 rgL∧(∀k',OwnOf v' k'→k'≠B)∧B<w5.heap.size:=by
 refine ⟨fr5.cells hB (fun hk=>hn _ hk rfl),fun k' hk'=> ?_,Nat.lt_of_lt_of_le hlt fr5.size⟩
 rcases at5 with h|h
 ·exact hn k' (by unfold OwnOf at*;rw [←h];exact hk')
 ·unfold OwnOf at hk'
  rw [h] at hk'
  have:=Option.some.inj hk'
  omega
theorem goS_len(l:List Nat):(goS l).length=3*l.length+1:=by
 unfold goS
 rw [List.length_append,List.length_append,goPush_len,popL_len,List.length_singleton]
 omega
theorem xflat_len11(l:List XI){n:Nat}(h:l.length=n):(xflat l).length=n*11:=by rw [xflat_len,h]
def StackTo(l:List Nat)(w0 wo:World)(N:Nat)(e:Ending)(w':World):Prop:=
 ∃(s:ST) (u k g:Int),s.ok∧e= .returned (.tuple #[.agg #[.int .u64 u, .int .i64 k],s.agg, .int .i64 g])∧Hid (Fr (Zof w0 N) wo w')∧
  ((15<l.length∧g=70∧u=0∧k=0)∨(l.length≤15∧g=0∧k=3*(l.length:Int)+1∧s.reg 4=262272∧∀k,k<4→s.reg (rg k)=if k<l.length then l.getD k 0 else 0))
theorem srun_any(l:List Nat)(hl:∀v∈l,v<18446744073709551616)(hn:l.length≤20){w0 wo:World}{N bw mb p:Nat}{RL:List Reg}(h:WM w0 N bw mb [] p RL (startW []) wo)(hm:MachAt w0):
  Calls Tryz.prog 7 #[.pointer (some ⟨bw,0,none⟩), .string (bA' ((stackL l).flatMap encB)), .int .i64 100] wo (StackTo l w0 wo N):=by
 refine (run_any h hm _ (stack_len hl hn) 100 (by decide)).mono fun e w' ⟨he,_,hf,hg⟩=> ?_
 by_cases c:l.length≤15
 ·obtain ⟨s,h1,h2,h3⟩:=stack_run hl hn c
  exact ⟨s,(s.reg 0:Nat),((3*l.length+1:Nat):Int),0,hg _ _ h1,by rw [he,h1];rfl,hf, .inr ⟨c,rfl,by omega,h2,h3⟩⟩
 ·have h1:=stack_full hl hn (by omega)
  exact ⟨ST.zero,0,0,70,ST.zero_ok,by rw [he,h1];rfl,hf, .inl ⟨by omega,rfl,rfl,rfl⟩⟩
theorem mstack_long(v:Value)(l:List Nat)(w:World)(ad:Option Addr)(cap:Nat)(hv:v= .slice ad l.length cap)(hn:20<l.length)(hm:MachAt w):
  Calls Tryz.prog 3 #[v] w fun e w'=>e= .returned (.bool true)∧Fr No w w':=by
 subst hv
 have HR:Hid (Calls Tryz.prog 5 #[] w fun e w'=>e= .returned (.bool true)∧Fr No w w'):=runs_any w hm
 have q1:decide ((l.length:Int)>20)=true:=by simp;omega
 clear hm hn
 generalize l.length=n at*
 go_enter Tryz.func3,Tryz.ntmps3
 go_wp2_with (go_at_call 5;(with_reducible refine HR.out.mono ?_);rintro e w1 ⟨rfl,hf1⟩)
 go_ret
 exact ⟨rfl,hf1⟩
theorem mstack_walk(l:List Nat)(hl:∀v∈l,v<18446744073709551616)(n:Nat)(hln:l.length=n)(hn:n≤20)(ad:Option Addr)(ga oa cap:Nat)(w:World)(hsrc:0<n→ad=some ⟨ga,oa,none⟩∧CellsAt w ga oa (l.map fun v:Nat=>Value.int .u64 (v:Int)))(hm:MachAt w):
  Calls Tryz.prog 3 #[.slice ad n cap] w fun e w'=>e= .returned (.bool true)∧Fr No w w':=by
 obtain ⟨i0,hi0,hz0,hz1,hz2⟩:=info_parts infoL_x
 have HR:Hid (∀W,Fr (From w) w W→Calls Tryz.prog 5 #[] W fun e w'=>e= .returned (.bool true)∧Fr No W w'):=fun W hW=>runs_any W (hm.fr hW.ours)
 have HNEW:Hid (∀W:World,Calls Tryz.prog 6 #[.agg #[.slice none 0 0, .int .i64 0], .agg #[.string ⟨#[]⟩, .int .u64 0, .slice none 0 0, .slice none 0 0], .slice none 0 0] W (HNewQ W [] 0 0 [] [] (memL 0 0 [] [] []))):=bare_new
 obtain ⟨CB,hCB⟩:∃CB,(stackL l).flatMap encB=CB:=⟨_,rfl⟩
 have HC:Hid (∀v W,XsIn W v (goS l)→Calls Tryz.prog 8 #[v] W fun e w'=>e= .returned (.string (bA' CB))∧Fr No W w'):=fun v W hv=>by
  have:=code_any (goS l) v W hv (by rw [goS_len];omega)
  rwa [codeM_put (goS_put l),hCB] at this
 have HRN:Hid (∀(w0 wo:World) (N bw mb p:Nat) (RL:List Reg),WM w0 N bw mb [] p RL (startW []) wo→MachAt w0→Calls Tryz.prog 7 #[.pointer (some ⟨bw,0,none⟩), .string (bA' CB), .int .i64 100] wo (StackTo l w0 wo N)):=fun w0 wo N bw mb p RL h hm=>by
  rw [←hCB];exact srun_any l hl (by omega) h hm
 have HSRC:=Lib.hid hsrc
 have HLN:=Lib.hid hln
 have HM:=Lib.hid hm
 have HS:Hid (∀(W:World) (o:Obj) (t:TypeId),SAt ((W.alloc o).alloc (.cells ST.zero.cells.toArray t)) (W.heap.size+1) ST.zero):=fun W o t=>by rw [←size_alloc W o];exact SAt.new _ ST.zero_ok _
 have q1:decide ((n:Int)>20)=false:=by simp;omega
 clear hm hCB hsrc hln
 go_enter Tryz.func3,Tryz.ntmps3
 go_upto_region 4 with fail
 go_wp2_with fail
 go_loopw [3,4] (fun s3 s4 wr=>∃(j:Nat) (va:Value),j≤n∧s3=va∧s4= .int .i64 j∧Hid (Gath w 27 11 (2*j) (xflat (goPush (l.take j))) va wr)) (fun _ s4 _=>n-(intOf s4).toNat)
 case atStart=>exact ⟨0,_,Nat.zero_le _,rfl,rfl,Lib.hid (Gath.start w _ _)⟩
 case round=>
  obtain ⟨j,va,hj,rfl,rfl,HG⟩:=hrel
  by_cases hlt:j<n
  ·obtain ⟨rfl,hc⟩:=HSRC.out (by omega)
   have hjl:j<l.length:=by rw [HLN.out];exact hlt
   have e0:=HG.out.fr.cells hc id j (.int .u64 (l[j]:Nat)) (by rw [List.getElem?_map,List.getElem?_eq_getElem hjl];rfl)
   have HT:=Lib.hid (goPush_take l j hjl)
   have hx:=goPush_len (l.take j)
   rw [List.length_take,Nat.min_eq_left (by omega)] at hx
   generalize l[j]=V at*
   generalize goPush (l.take j)=X at*
   have HX:=Lib.hid (xflat_len11 X hx)
   have ta:=wrap_sg V
   have sa:IntKind.i64.wrap (V:Int)=sg V:=rfl
   have c1:(0:Int)≤(j:Int):=by omega
   have c2:(j:Int)<(n:Int):=by omega
   have q2:decide ((j:Int)<(n:Int))=true:=by simpa using hlt
   clear hc hx hjl hlt
   go_wp2_with (at_builtin;refine wpList_appn rfl (.tmp 24) (.tmp 32) 24 rfl w.heap.size 27 i0 _ 11 72 Tryz.underlying24 hi0 hz0 hz1 hz2 rfl (by decide) u3 (2*j) (xflat X) rfl ((HG.out.to (fr_alloc _ _)).own) _ 2 (xflat [absR 3 (sg V),pushX 3]) rfl (src_many _ (xflat [absR 3 (sg V),pushX 3]) _ 2) (by rfl) (xflat_one _) (by unfold maxLen;omega) (by omega) ((HG.out.to (fr_alloc _ _)).fr.size) ?_;intro v' w5 own5 fr5 at5;have HG5:=Lib.hid (gath_stepm (HG.out.to (fr_alloc _ _)) own5 fr5);clear own5 fr5 at5)
   go_roundw
   case rel=>exact ⟨j+1,_,by omega,rfl,by go_num,by rw [HT.out,xflat_app];exact HG5⟩
   case measure=>simp [intOf]<;>omega
  ·obtain rfl:n=j:=by omega
   have e:l.take n=l:=by rw [←HLN.out,List.take_length]
   rw [e] at HG
   clear e hlt hj
   have HB:Hid (∀t,Gath w 27 11 (2*n) (xflat (goPush l)) u3 (wr.alloc (.cells #[.int .i64 0, .int .i64 1, .int .i64 12, .int .i64 15] t))∧CellsAt (wr.alloc (.cells #[.int .i64 0, .int .i64 1, .int .i64 12, .int .i64 15] t)) wr.heap.size 0 rgL∧(∀k',OwnOf u3 k'→k'≠wr.heap.size)∧wr.heap.size<(wr.alloc (.cells #[.int .i64 0, .int .i64 1, .int .i64 12, .int .i64 15] t)).heap.size):=fun t=>
    ⟨HG.out.to (fr_alloc _ _),CellsAt.new wr rgL t,fun k' hk'=>by have:=(HG.out.own.lt k' hk').2;omega,by rw [size_alloc];omega⟩
   have ln1:w.heap.size≤wr.heap.size:=HG.out.fr.size
   go_upto_region 9 with fail
   refine wp_box (fun W1=>Hid (Gath w 27 11 (2*n) (xflat (goPush l)) u3 W1∧CellsAt W1 wr.heap.size 0 rgL∧(∀k',OwnOf u3 k'→k'≠wr.heap.size)∧wr.heap.size<W1.heap.size)) (by exact HB.out _) ?_
   intro W1 H1
   clear HB HG
   generalize wr.heap.size=B at*
   have w1:RowKit.wrap64 ((n:Int)-1)=(n:Int)-1:=IntWalk.wrap64_in _ (by omega)
   go_wp2_with fail
   go_loopw [3,6] (fun s3 s6 wz=>∃(i:Nat) (va:Value),i≤n∧s3=va∧s6= .int .i64 ((i:Int)-1)∧Hid (Gath w 27 11 (2*n+(n-i)) (xflat (goPush l++popsTo n i)) va wz∧CellsAt wz B 0 rgL∧(∀k',OwnOf va k'→k'≠B)∧B<wz.heap.size)) (fun _ s6 _=>(intOf s6+1).toNat)
   case atStart=>exact ⟨n,_,Nat.le_refl _,rfl,rfl,Lib.hid ⟨by rw [popsTo_start,List.append_nil,Nat.sub_self];exact H1.out.1,H1.out.2⟩⟩
   case round=>
    obtain ⟨i,va,hi,rfl,rfl,H2⟩:=hrel
    clear H1
    rcases i with _|m
    ·have q2:decide (((0:Nat):Int)-1≥0)=false:=by decide
     obtain ⟨NN,hNN⟩:∃NN,2*n+(n-0)=NN:=⟨_,rfl⟩
     have HXE:Hid (xflat (goPush l++popsTo n 0)++xflat [retX]=xflat (goS l)):=by rw [←xflat_app,popsTo_all,List.append_assoc];unfold goS;rw [HLN.out];exact Lib.hid rfl
     have HNN:Hid (NN+1=3*n+1):=by rw [←hNN];exact Lib.hid (by omega)
     have ln2:NN≤60:=by omega
     rw [hNN] at H2
     clear hNN
     generalize goPush l++popsTo n 0=X at*
     go_upto_region 14 with (at_builtin;refine wpList_appn rfl (.tmp 50) (.tmp 52) 24 rfl w.heap.size 27 i0 _ 11 72 Tryz.underlying24 hi0 hz0 hz1 hz2 rfl (by decide) u3 NN (xflat X) rfl ((H2.out.1.to (fr_alloc _ _)).own) _ 1 (xflat [retX]) rfl (src_many _ (xflat [retX]) _ 1) (by rfl) (xflat_one _) (by unfold maxLen;omega) (by omega) ((H2.out.1.to (fr_alloc _ _)).fr.size) ?_;intro v5 w5 own5 fr5 at5;have HG5:=Lib.hid (gath_stepm (H2.out.1.to (fr_alloc _ _)) own5 fr5);have HB5:=Lib.hid (beside_app ((fr_alloc _ _:Fr No _ _).cells H2.out.2.1 id) H2.out.2.2.1 (Nat.lt_of_lt_of_le H2.out.2.2.2 (by rw [size_alloc];omega)) fr5 at5);clear own5 fr5 at5)
     have H5:Hid (Fr No w w5∧CellsAt w5 B 0 rgL∧XsIn w5 v5 (goS l)∧B<w5.heap.size):=Lib.hid ⟨HG5.out.fr,HB5.out.1,gath_xs (n:=NN+1) (by rw [←HXE.out];exact HG5.out) (by rw [goS_len,HLN.out,HNN.out]),HB5.out.2.2⟩
     clear HG5 HB5 HXE HNN H2 ln2 w1 q2
     have HM2:Hid (MachAt w5):=Lib.hid (HM.out.fr H5.out.1)
     go_upto_region 15 with (go_at_call 6;(with_reducible refine (HNEW.out _).mono ?_);rintro e1 w1 ⟨bw,b',mb,A,H,TT,mv,ov,dv,rfl,hw1,hf1⟩)
     have HWM:Hid (WM w5 w1.heap.size bw mb [] 0 (ownL 0 0 [] []) (startW []) w1):=Lib.hid (WM.of hw1.out (⟨rfl,fun d hd=>absurd hd List.not_mem_nil⟩:HWok [] ⟨[],([]:List MapD).map Tab.new,memL 0 0 [] [] []⟩))
     have H6:Hid (Fr No w w1∧CellsAt w1 B 0 rgL∧XsIn w1 v5 (goS l)):=Lib.hid ⟨H5.out.1.trans hf1,hf1.cells H5.out.2.1 id,H5.out.2.2.1.fr hf1⟩
     clear hw1 hf1 HNEW
     go_upto_region 16 with (first
      |(go_at_call 8;(with_reducible refine (HC.out _ _ H6.out.2.2).mono ?_);rintro e2 w2 ⟨rfl,hf2⟩;replace HWM:=Lib.hid (HWM.out.to hf2);have H7:=Lib.hid (And.intro (H6.out.1.trans hf2) (hf2.cells H6.out.2.1 id));clear hf2 H6)
      |(go_at_call 7;(with_reducible refine (HRN.out _ _ _ _ _ _ _ HWM.out HM2.out).mono ?_);rintro e3 w3 ⟨s,uu,kk,gg,hs,rfl,hf3,hor⟩;unfold ST.agg)
      |(refine (HS.out w3 _ _).store hs rfl (.tmp 10) (.tmp 66) rfl rfl rfl ?_;intro W9 h9 hf9))
     have H9:Hid (Fr (From w) w W9∧CellsAt W9 B 0 rgL∧CellsAt W9 w3.heap.size 0 [.int .u64 uu, .int .i64 kk]∧SAt W9 (w3.heap.size+1) s):=by
      have z4:=H7.out.1.size
      have z5:=H5.out.1.size
      have z3:=hf3.out.size
      have lb:=H5.out.2.2.2
      have l4:B<w2.heap.size:=World.block_lt_of_cell? w2 _ (H7.out.2 0 _ rfl)
      have g3:Fr (fun k=>k=w3.heap.size+1) w3 W9:=(((fr_alloc _ _).trans (fr_alloc _ _):Fr No w3 _).mono fun _ _ q=>absurd q id).trans hf9
      have hz:∀x,Zof w5 w1.heap.size x→w5.heap.size≤x:=fun x hx=>hx.1
      have c4:CellsAt w3 B 0 rgL:=hf3.out.cells H7.out.2 (fun hx=>by have:=hz _ hx;omega)
      refine Lib.hid ⟨H7.out.1.any.trans ((hf3.out.mono fun x _ hx=>Nat.le_trans z5 (hz x hx)).trans (g3.mono fun x _ hx=>by show w.heap.size≤x;omega)),g3.cells c4 (show¬B=w3.heap.size+1 by omega),?_,h9⟩
      exact hf9.cells ((fr_alloc _ _:Fr No _ _).cells (CellsAt.new w3 [.int .u64 uu, .int .i64 kk] _) id) (show¬w3.heap.size=w3.heap.size+1 by omega)
     clear h9 hf9 hf3 H7 HWM HM2 H5 HRN HC HS
     generalize w3.heap.size=bo at*
     have o0:=H9.out.2.2.1 0 _ rfl
     have o1:=H9.out.2.2.1 1 _ rfl
     simp only [Nat.zero_add] at o0 o1
     rw [HLN.out] at hor
     have g2:=fun (xs ys:Array Value) (x y:Operand) W=>guard_out xs ys .eql x y W
     have g1:∀W,(binOp .eql 40 (.agg #[.int .u64 0, .int .i64 0]) (.agg #[.int .u64 0, .int .i64 0])).run Tryz.prog W= .ok (.bool true) W:=fun W=>(eq_out 0 0 0 0 W).trans rfl
     rcases hor with ⟨hbig,rfl,rfl,rfl⟩|⟨h15,rfl,rfl,h4,hreg⟩
     ·have q3:decide ((n:Int)>15)=true:=by simp;omega
      clear hbig
      go_wp2_with (go_at_call 5;(with_reducible refine (HR.out _ H9.out.1).mono ?_);rintro e8 w8 ⟨rfl,hf8⟩)
      go_ret
      exact ⟨rfl,(H9.out.1.trans hf8.any).ours⟩
     ·have q3:decide ((n:Int)>15)=false:=by simp;omega
      have m3:RowKit.wrap64 (3*(n:Int))=3*(n:Int):=IntWalk.wrap64_in _ (by omega)
      have m4:RowKit.wrap64 (3*(n:Int)+1)=3*(n:Int)+1:=IntWalk.wrap64_in _ (by omega)
      have r4:W9.cell? ⟨bo+1,4,none⟩=some (.int .u64 262272):=by have:=H9.out.2.2.2.reg (show 4<16 by decide);rw [h4] at this;exact this
      clear hn h15
      go_wp2_with fail
      go_loopw [12] (fun s12 wq=>∃k:Nat,k≤4∧s12= .int .i64 k∧Hid (Fr No W9 wq)) (fun s12 _=>4-(intOf s12).toNat)
      case atStart=>exact ⟨0,by omega,rfl,Fr.refl _ _⟩
      case round=>
       obtain ⟨k,hk,rfl,HF⟩:=hrel
       by_cases hk4:k<4
       ·have c1:(0:Int)≤(k:Int):=by omega
        have c2:(k:Int)<4:=by omega
        have q4:decide ((k:Int)<4)=true:=by simp;omega
        have e5:=HF.out.cell (H9.out.2.1 k _ (rgL_at k hk4)) id
        have hz16:=(rg_lt k hk4).1
        have e6:=HF.out.cell (H9.out.2.2.2.reg hz16) id
        rw [hreg k hk4] at e6
        simp only [Nat.zero_add] at e5
        generalize rg k=z at*
        have z1:(0:Int)≤(z:Int):=by omega
        have z2:(z:Int)<16:=by omega
        by_cases hkn:k<n
        ·rw [if_pos hkn] at e6
         obtain ⟨rfl,hc⟩:=HSRC.out (by omega)
         have hkl:k<l.length:=by rw [HLN.out];exact hkn
         have hgk:(l.map fun v:Nat=>Value.int .u64 (v:Int))[k]? =some (.int .u64 (l.getD k 0:Nat)):=by rw [List.getElem?_map,List.getD_eq_getElem?_getD,List.getElem?_eq_getElem hkl];rfl
         have hg:ga<w.heap.size:=World.block_lt_of_cell? w _ (hc k _ hgk)
         have e7:=(H9.out.1.trans HF.out.any).cells hc (fun h=>by unfold From at h;omega) k _ hgk
         have c3:(k:Int)<(n:Int):=by omega
         have q5:decide ((k:Int)<(n:Int))=true:=by simpa using hkn
         generalize l.getD k 0=V at*
         clear hc hg hgk hkl hkn
         go_wp2_with fail
         go_roundw
         case rel=>exact ⟨k+1,by omega,by go_num,HF⟩
         case measure=>simp [intOf]<;>omega
        ·rw [if_neg hkn] at e6
         have q5:decide ((k:Int)<(n:Int))=false:=by simp;omega
         have e7:wr.cell? ⟨bo+1,z,none⟩=some (.int .u64 0):=e6
         have c3:¬(k:Int)<(n:Int):=by omega
         clear e6
         go_wp2_with fail
         go_roundw
         case rel=>exact ⟨k+1,by omega,by go_num,HF⟩
         case measure=>simp [intOf]<;>omega
       ·obtain rfl:k=4:=by omega
        have q4:decide (((4:Nat):Int)<4)=false:=by decide
        go_wp2_with (go_at_call 5;(with_reducible refine (HR.out _ (H9.out.1.trans HF.out.any)).mono ?_);rintro e8 w8 ⟨rfl,hf8⟩)
        go_ret
        exact ⟨rfl,((H9.out.1.trans HF.out.any).trans hf8.any).ours⟩
    ·have e:(((m+1:Nat):Int)-1)=(m:Int):=by omega
     rw [e]
     have q2:decide ((m:Int)≥0)=true:=by simp
     have e4:(m:Int).tmod 4=((m%4:Nat):Int):=by rw [Int.tmod_eq_emod_of_nonneg (by omega)];rfl
     have c1:(0:Int)≤((m%4:Nat):Int):=by omega
     have c2:((m%4:Nat):Int)<4:=by omega
     have e0:=H2.out.2.1 (m%4) _ (rgL_at (m%4) (by omega))
     have w2:RowKit.wrap64 ((m:Int)-1)=(m:Int)-1:=IntWalk.wrap64_in _ (by omega)
     have HT:=Lib.hid (popsTo_step n m hi)
     have hx:(goPush l++popsTo n (m+1)).length=2*n+(n-(m+1)):=by rw [List.length_append,goPush_len,popsTo_len n (m+1) hi,HLN.out]
     have hn1:2*n+(n-m)=2*n+(n-(m+1))+1:=by omega
     have HX:=Lib.hid (xflat_len11 _ hx)
     have HGE:Hid (xflat (goPush l++popsTo n m)=xflat (goPush l++popsTo n (m+1))++xflat [popX (rg (m%4):Nat)]):=by rw [HT.out,←List.append_assoc,xflat_app];exact Lib.hid rfl
     have HN1:=Lib.hid hn1
     have ln2:2*n+(n-(m+1))≤60:=by omega
     clear hx hn1 e HT
     simp only [Nat.zero_add] at e0
     generalize goPush l++popsTo n (m+1)=X at*
     generalize 2*n+(n-(m+1))=NN at*
     generalize rg (m%4)=rr at*
     generalize m%4=m4 at*
     go_wp2_with (at_builtin;refine wpList_appn rfl (.tmp 42) (.tmp 48) 24 rfl w.heap.size 27 i0 _ 11 72 Tryz.underlying24 hi0 hz0 hz1 hz2 rfl (by decide) u3 NN (xflat X) rfl ((H2.out.1.to (fr_alloc _ _)).own) _ 1 (xflat [popX (rr:Nat)]) rfl (src_many _ (xflat [popX (rr:Nat)]) _ 1) (by rfl) (xflat_one _) (by unfold maxLen;omega) (by omega) ((H2.out.1.to (fr_alloc _ _)).fr.size) ?_;intro v' w5 own5 fr5 at5;have HG5:=Lib.hid (gath_stepm (H2.out.1.to (fr_alloc _ _)) own5 fr5);have HB5:=Lib.hid (beside_app ((fr_alloc _ _:Fr No _ _).cells H2.out.2.1 id) H2.out.2.2.1 (Nat.lt_of_lt_of_le H2.out.2.2.2 (by rw [size_alloc];omega)) fr5 at5);clear own5 fr5 at5)
     go_roundw
     case rel=>exact ⟨m,_,by omega,rfl,rfl,Lib.hid ⟨by rw [HN1.out,HGE.out];exact HG5.out,HB5.out⟩⟩
     case measure=>simp [intOf]<;>omega
end Go.Proofs.YtjcgmhlbkheadaaGreatDoor
