/- The maps of a helpers' world, looked up. -/
import Derived.Test.YtjcgmhlbkheadaaGreatDoorCore35
import Derived.Test.YtjcgmhlbkheadaaGreatDoorPlK
import Derived.ChangeKeysEq
set_option linter.all false
set_option linter.unusedVariables false
set_option linter.unusedSimpArgs false
set_option maxRecDepth 100000
namespace Go.Proofs.YtjcgmhlbkheadaaGreatDoor
open Go.RowKit
theorem hmaps_any(bw b:Nat)(w:World)(h:w.cell? ⟨bw,0,none⟩=some (.bool true))(h5:w.cell? ⟨bw,5,none⟩=some (.pointer (some ⟨b,0,none⟩))):
  Calls Tryz.prog 13 #[.pointer (some ⟨bw,0,none⟩)] w fun e w'=>e= .returned (.pointer (some ⟨b,0,none⟩))∧w=w':=by
 have HN:=hnone_hid bw w h
 clear h
 go_enter Tryz.func13,Tryz.ntmps13
 go_wp2_with (go_at_call 30;(with_reducible refine (HN.out).mono ?_);rintro e w1 ⟨rfl,rfl⟩)
 go_ret
 exact ⟨rfl,rfl⟩
theorem WM.looks{w0 wr:World}{N bw mb p:Nat}{ds:List MapD}{RL:List Reg}{W:HW}(h:WM w0 N bw mb ds p RL W wr)(i:Int)(key:List UInt8)(r:Int)(hr:mlookup W.S i key=r):
  ∃b,(∀W',Fr No wr W'→Calls Tryz.prog 13 #[.pointer (some ⟨bw,0,none⟩)] W' fun e w'=>e= .returned (.pointer (some ⟨b,0,none⟩))∧W'=w')
   ∧∀W',Fr No wr W'→Calls Tryz.prog 14 #[.pointer (some ⟨b,0,none⟩), .int .i64 i, .string ⟨key.toArray⟩] W' fun e w'=>e= .returned (.int .u64 r)∧Fr No W' w':=by
 obtain ⟨b,A,H,T,mv,ov,dv,hw,hz⟩:=h.ex
 exact ⟨b,fun W' hf=>hmaps_any bw b W' (hf.cell hw.c0 id) (hf.cell hw.c5 id),fun W' hf=>((hw.k.to hf).lookup i key r hr).mono fun e w' ⟨he,_,hf⟩=>⟨he,hf⟩⟩
theorem SAt.storedR{w:World}{b:Nat}{s:ST}(h:SAt w b s){r:List Nat}(ht:({s with r:=r}:ST).ok):SAt (w.setCells b 0 (r.map fun v:Nat=>Value.int .u64 (v:Int))) b {s with r:=r}:=by
 have hl:(r.map fun v:Nat=>Value.int .u64 (v:Int)).length=16:=by rw [List.length_map];exact ht.len
 refine ⟨fun i u hu=> ?_,fun j=>by rw [World.frozen?_setCells];exact h.open_ j,ht⟩
 replace hu:((r.map fun v:Nat=>Value.int .u64 (v:Int))++ [Value.bool s.z, .bool s.s, .bool s.c, .bool s.o, .int .u64 s.pc])[i]? =some u:=hu
 by_cases hi:i<16
 ·rw [List.getElem?_append_left (by omega)] at hu
  exact World.rangeAt_setCells_same w b 0 _ (fun j hj=>h.there j (by omega)) i u hu
 ·rw [World.cell?_setCells_out b _ 0 w _ (fun _ _=> .inr (by rw [hl];show 0+16≤0+i;omega))]
  refine h.cells i u ?_
  unfold ST.cells
  rw [List.getElem?_append_right (by omega),hl] at hu
  rw [List.getElem?_append_right (by rw [List.length_map,h.ok.len];omega),List.length_map,h.ok.len]
  exact hu
theorem SAt.storeR{w:World}{b:Nat}{s:ST}(h:SAt w b s){r:List Nat}(ht:({s with r:=r}:ST).ok){ops:Array Oper}{rest:List Oper}{op:Oper}{c:Act}{Q:Exit→Act→World→Prop}(hgd:op.guard=none)(px py:Operand)(ho:op.op= .store 41 px py)
  (hx:c.eval px= .pointer (some ⟨b,0,none⟩)) (hy:c.eval py= .agg (r.map fun v:Nat=>Value.int .u64 (v:Int)).toArray) (k:∀W',SAt W' b {s with r:=r}→Fr (fun k=>k=b) w W'→wpList Tryz.prog ops Q rest (c.put op.dst undef) W'):wpList Tryz.prog ops Q (op::rest) c w:=by
 have hl:(r.map fun v:Nat=>Value.int .u64 (v:Int)).length=16:=by rw [List.length_map];exact ht.len
 exact wpList_store_mid hgd 41 px py ho b 0 (r.map fun v:Nat=>Value.int .u64 (v:Int)).toArray hx hy (by rw [List.size_toArray,hl];exact fun j hj=>h.there j (by omega)) (by rw [List.size_toArray,hl];kernel_rfl)
  (all_oneCell_toArray fun v hv=>by obtain ⟨n,_,rfl⟩:=List.mem_map.1 hv;rfl) (k _ (h.storedR ht) ((Fr.refl (fun k=>k=b) w).setCells (.inr rfl) 0 _))
theorem eq_u16(d:Nat)(L:List Nat)(hl:L.length=16)(W:World):(Op.equalIn (d+1+1) 41 (.agg (L.map fun v:Nat=>Value.int .u64 (v:Int)).toArray) (.agg (L.map fun v:Nat=>Value.int .u64 (v:Int)).toArray)).run Tryz.prog W= .ok true W:=by
 obtain ⟨i0,hi0⟩:=Option.isSome_iff_exists.1 (by kernel_rfl:(Tryz.prog.info? 25).isSome=true)
 rw [run_equalIn_array W (d+1) _ _ Tryz.underlying41 hi0,show Tryz.prog.cellsOf 25=1 from by kernel_rfl]
 have key:∀is:List Nat,(∀i∈is,i<16)→(Op.eqItems (d+1) 25 1 (L.map fun v:Nat=>Value.int .u64 (v:Int)).toArray (L.map fun v:Nat=>Value.int .u64 (v:Int)).toArray is).run Tryz.prog W= .ok true W:=by
  intro is
  induction is with
  |nil=>intro _;simp [Op.eqItems]
  |cons i is ih=>
   intro h
   have hi:(L.map fun v:Nat=>Value.int .u64 (v:Int)).toArray[i*1]? =some (.int .u64 ((L.getD i 0:Nat):Int)):=by
    have:=h i List.mem_cons_self
    rw [Nat.mul_one,List.getElem?_toArray,List.getElem?_map,List.getD_eq_getElem?_getD,List.getElem?_eq_getElem (by omega)]
    rfl
   have p:=run_part_plain (P:=Tryz.prog) W (e:=25) (by kernel_rfl) hi
   simp only [Op.eqItems,Sem.run_bind,p,Result.andThen_ok,run_equalIn_int W d _ .u64 .u64 _ _ Tryz.underlying25]
   simpa using ih fun k hk=>h k (List.mem_cons_of_mem _ hk)
 exact key _ fun i hi=>List.mem_range.1 hi
theorem eqF_step{P:Program}{W:World}{d:Nat}{xs ys:Array Value}{f:Field}{fs:List Field}{a b:Value}(h:f.name≠ "_")(pa:(part f.type xs f.offset).run P W= .ok a W)(pb:(part f.type ys f.offset).run P W= .ok b W)(r:(Op.equalIn d f.type a b).run P W= .ok true W):
  (Op.eqFields d xs ys (f::fs)).run P W=(Op.eqFields d xs ys fs).run P W:=by
 simp only [Op.eqFields,h,ne_eq,not_false_eq_true,if_true,Sem.run_bind,pa,pb,r,Result.andThen_ok]
 simp
theorem eq_mcT(x:Nat)(W:World):(binOp .eql 43 (.agg (mcT x).cells.toArray) (.agg (mcT x).cells.toArray)).run Tryz.prog W= .ok (.bool true) W:=by
 have hS:Tryz.prog.underlying 43=some (.struct (Tryz.prog.fieldsOf 43)):=by kernel_rfl
 have hp:Tryz.prog.stoodInHeld 43=false:=by kernel_rfl
 have p0:(part 41 (mcT x).cells.toArray 0).run Tryz.prog W= .ok (.agg ((mcT x).r.map fun v:Nat=>Value.int .u64 (v:Int)).toArray) W:=by kernel_rfl
 have pb:∀(k:Nat) (b:Bool),(mcT x).cells.toArray[k]? =some (.bool b)→(part 4 (mcT x).cells.toArray k).run Tryz.prog W= .ok (.bool b) W:=fun k b h=>run_part_plain (P:=Tryz.prog) W (e:=4) (by kernel_rfl) h
 have p5:(part 25 (mcT x).cells.toArray 20).run Tryz.prog W= .ok (.int .u64 4194403) W:=run_part_plain (P:=Tryz.prog) W (e:=25) (by kernel_rfl) rfl
 obtain ⟨d,hd⟩:∃d,10000=d+1+1+1:=⟨9997,rfl⟩
 have e0:=eq_u16 d (mcT x).r rfl W
 have eb:∀a:Bool,(Op.equalIn (d+1+1) 4 (.bool a) (.bool a)).run Tryz.prog W= .ok true W:=fun a=>(run_equalIn_bool (P:=Tryz.prog) W (d+1) 4 a a Tryz.underlying4).trans (by rw [beq_self_eq_true])
 have e5:(Op.equalIn (d+1+1) 25 (.int .u64 4194403) (.int .u64 4194403)).run Tryz.prog W= .ok true W:=(run_equalIn_int (P:=Tryz.prog) W (d+1) 25 .u64 .u64 4194403 4194403 Tryz.underlying25).trans (by rw [beq_self_eq_true])
 have b16:=pb 16 false rfl
 have b17:=pb 17 false rfl
 have b18:=pb 18 true rfl
 have b19:=pb 19 true rfl
 clear pb
 rw [run_eql_struct,hd,run_equalIn_agg W (d+1+1) _ _ _ hS hp]
 clear hS hp hd
 generalize (mcT x).cells.toArray=C at*
 generalize ((mcT x).r.map fun v:Nat=>Value.int .u64 (v:Int)).toArray=R at*
 suffices h:(Op.eqFields (d+1+1) C C (Tryz.prog.fieldsOf 43).toList).run Tryz.prog W= .ok true W by rw [h];rfl
 simp only [Program.fieldsOf,Tryz.underlying43]
 refine Eq.trans (eqF_step (by decide) p0 p0 e0) ?_
 refine Eq.trans (eqF_step (by decide) b16 b16 (eb _)) ?_
 refine Eq.trans (eqF_step (by decide) b17 b17 (eb _)) ?_
 refine Eq.trans (eqF_step (by decide) b18 b18 (eb _)) ?_
 refine Eq.trans (eqF_step (by decide) b19 b19 (eb _)) ?_
 refine Eq.trans (eqF_step (by decide) p5 p5 e5) ?_
 rfl
theorem guard_St(xs ys:Array Value)(op:BinOp)(x y:Operand)(w:World):(eqGuard op 43 x y (.agg xs) (.agg ys)).run Tryz.prog w= .ok () w:=run_eqGuard_agg w op _ x y xs ys (by kernel_rfl)
structure MC(w0:World)(k0 k1 v0 v1 v2 v3:UInt8)(wz:World)(N bw mb:Nat)(RL:List Reg)(S:List Tab)(m:List Reg)(b:Nat)(s:ST)(wr:World):Prop where
 fr:Fr (From w0) w0 wr
 key:CellsAt wr w0.heap.size 0 (u8s [k0,k1])
 val:CellsAt wr (w0.heap.size+1) 0 (u8s [v0,v1,v2,v3])
 st:SAt wr b s
 wm:WM wz N bw mb mcD 6 RL ⟨[],S,m⟩ wr
 lo:w0.heap.size+1<wz.heap.size
 nb:N≤b
section
variable {w0 wz wr w':World} {k0 k1 v0 v1 v2 v3:UInt8} {N bw mb b:Nat} {RL:List Reg} {S:List Tab} {m:List Reg} {s:ST}
theorem MC.no(h:MC w0 k0 k1 v0 v1 v2 v3 wz N bw mb RL S m b s wr)(hf:Fr No wr w'):MC w0 k0 k1 v0 v1 v2 v3 wz N bw mb RL S m b s w':=⟨h.fr.trans hf.any,hf.cells h.key id,hf.cells h.val id,h.st.fr hf id,h.wm.to hf,h.lo,h.nb⟩
theorem MC.zN(h:MC w0 k0 k1 v0 v1 v2 v3 wz N bw mb RL S m b s wr):wz.heap.size<N:=Nat.lt_of_le_of_lt h.wm.lo h.wm.bw
theorem MC.beside(h:MC w0 k0 k1 v0 v1 v2 v3 wz N bw mb RL S m b s wr){c:Nat}(hf:Fr (fun k=>k=c) wr w')(hc:N≤c)(hb:c≠b):MC w0 k0 k1 v0 v1 v2 v3 wz N bw mb RL S m b s w':=by
 have h1:=h.lo
 have h2:=h.zN
 exact ⟨h.fr.trans (hf.mono fun k _ hk=>by show w0.heap.size≤k;omega),hf.cells h.key (show¬_=_ by omega),hf.cells h.val (show¬_=_ by omega),h.st.fr hf (Ne.symm hb),h.wm.beside hf (fun k hk=>by omega),h.lo,h.nb⟩
theorem MC.state(h:MC w0 k0 k1 v0 v1 v2 v3 wz N bw mb RL S m b s wr){s':ST}(hs:SAt w' b s')(hf:Fr (fun k=>k=b) wr w'):MC w0 k0 k1 v0 v1 v2 v3 wz N bw mb RL S m b s' w':=by
 have h1:=h.lo
 have h2:=h.zN
 have h3:=h.nb
 exact ⟨h.fr.trans (hf.mono fun k _ hk=>by show w0.heap.size≤k;omega),hf.cells h.key (show¬_=_ by omega),hf.cells h.val (show¬_=_ by omega),hs,h.wm.beside hf (fun k hk=>by omega),h.lo,h.nb⟩
theorem MC.world(h:MC w0 k0 k1 v0 v1 v2 v3 wz N bw mb RL S m b s wr){S':List Tab}{m':List Reg}(hw:WM wz N bw mb mcD 6 RL ⟨[],S',m'⟩ w')(hf:Fr (Zof wz N) wr w'):MC w0 k0 k1 v0 v1 v2 v3 wz N bw mb RL S' m' b s w':=by
 have h1:=h.lo
 have h3:=h.nb
 exact ⟨h.fr.trans (hf.mono fun k _ hk=>by have:=hk.1;show w0.heap.size≤k;omega),hf.cells h.key (fun hk=>by have:=hk.1;omega),hf.cells h.val (fun hk=>by have:=hk.1;omega),h.st.fr hf (fun hk=>by have:=hk.2;omega),hw,h.lo,h.nb⟩
theorem MC.text(h:MC w0 k0 k1 v0 v1 v2 v3 wz N bw mb RL S m b s wr)(addr:Nat)(n:Int)(ha:addr<18446744073709551616)(hn:n≤9223372036854775807){r:List UInt8}(hr:mtext m addr n=(r,0)):
  Calls Tryz.prog 11 #[.pointer (some ⟨mb,0,none⟩), .int .u64 addr, .int .i64 n] wr fun e w'=>e= .returned (.tuple #[.string (bA' r), .int .i64 0])∧Fr No wr w':=
 (h.wm.text addr n ha hn).mono fun e w' ⟨he,hf⟩=>⟨by rw [he];show _=_;rw [hr],hf⟩
theorem callX_ok{rl:Int}(h: -2147483648≤rl∧rl≤2147483647):(callX rl).ok:=by
 constructor<;>dsimp only [callX]<;>omega
theorem mcX_ok{x:Nat}(hx:x<18446744073709551616):(mcX x).ok:=⟨rfl,fun v hv=>by simp [mcX] at hv;omega,(by decide:(4194304:Nat)<18446744073709551616)⟩
theorem mcT_ok{x:Nat}(hx:x<18446744073709551616):(mcT x).ok:=⟨rfl,fun v hv=>by simp [mcT] at hv;omega,(by decide:(4194403:Nat)<18446744073709551616)⟩
theorem MC.call{x:Nat}(h:MC w0 k0 k1 v0 v1 v2 v3 wz N bw mb RL mcS (mcM1 k0 k1 v0 v1 v2 v3) b s wr)(hm:MachAt wz)(hx:x<18446744073709551616):
  Calls Tryz.prog 12 #[.pointer (some ⟨bw,0,none⟩),(callX 4194207).agg, .int .u64 4194403,(mcX x).agg] wr fun e w'=>e= .returned (.tuple #[(mcT x).agg, .int .i64 0])∧Hid (MC w0 k0 k1 v0 v1 v2 v3 wz N bw mb RL (mcS1 k0 k1) (mcM2 k0 k1 v0 v1 v2 v3) b s w')∧Hid (Fr (Zof wz N) wr w'):=by
 refine (step_any h.wm hm (callX 4194207) 4194403 (mcX x) (mcX_ok hx) (callX_ok (by decide)) (by decide)).mono fun e w' ⟨he,h2,h3⟩=> ?_
 rw [c_step] at he h2
 exact ⟨he,Lib.hid (h.world h2.out h3.out),h3⟩
theorem MC.bad{x:Nat}(h:MC w0 k0 k1 v0 v1 v2 v3 wz N bw mb RL (mcS1 k0 k1) (mcM2 k0 k1 v0 v1 v2 v3) b s wr)(hm:MachAt wz)(hx:x<18446744073709551616):
  Calls Tryz.prog 12 #[.pointer (some ⟨bw,0,none⟩),(callX 4194209).agg, .int .u64 4194403,(mcX x).agg] wr fun e w'=>e= .returned (.tuple #[ST.zero.agg, .int .i64 110])∧Hid (MC w0 k0 k1 v0 v1 v2 v3 wz N bw mb RL (mcS1 k0 k1) (mcM2 k0 k1 v0 v1 v2 v3) b s w')∧Hid (Fr (Zof wz N) wr w'):=by
 refine (step_any h.wm hm (callX 4194209) 4194403 (mcX x) (mcX_ok hx) (callX_ok (by decide)) (by decide)).mono fun e w' ⟨he,h2,h3⟩=> ?_
 rw [c_bad] at he h2
 exact ⟨he,Lib.hid (h.world h2.out h3.out),h3⟩
end
end Go.Proofs.YtjcgmhlbkheadaaGreatDoor
