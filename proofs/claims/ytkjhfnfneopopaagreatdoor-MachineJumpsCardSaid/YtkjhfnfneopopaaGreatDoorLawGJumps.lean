/- The statement MachineJumpsSaid: for every input firewalllaw13.MachineJumps returns true, and its arguments read afterwards as they read before; the nine listed variables start as the program's text lays them (the card ties them). No other condition. -/
import Derived.Test.YtkjhfnfneopopaaGreatDoorNa1
import Derived.Test.YtkjhfnfneopopaaGreatDoorU64p
import Derived.Test.YtkjhfnfneopopaaGreatDoorCore43
import Derived.Test.YtkjhfnfneopopaaGreatDoorTie
import Derived.Test.YtkjhfnfneopopaaGreatDoorCards
import Derived.ProofKit
import Derived.LaidMore
import Derived.OpenShut
import Derived.Stop.Joined
import Derived.SevenTiedAt
set_option linter.all false
set_option linter.unusedVariables false
set_option linter.unusedSimpArgs false
set_option maxRecDepth 100000
set_option maxHeartbeats 8000000
namespace Go.Proofs.YtkjhfnfneopopaaGreatDoor.lawMachineJumps
open Go.ChangeShapes Go.WideShapes Go.ChangeAt Go.RowKit
theorem own:ownKnob Tryz.prog.godebug=none:=by kernel_rfl
theorem laidOut:laidOutB Tryz.prog=true:=by kernel_rfl
theorem walk(c:Nat)(sh:Bool)(a b:Nat)(hc:c<256)(ha:a<18446744073709551616)(hb:b<18446744073709551616)(w:World)(hm:MachAt w):
  Calls Tryz.prog 5 #[.int .u8 c, .agg #[.int .u64 a, .int .u64 b], .bool sh] w fun e w'=>e= .returned (.bool true)∧Below w.heap.size w w':=
 (mjumps_any c hc sh a b ha hb w hm).mono fun _ _ ⟨he,hf⟩=>⟨he,hf.below⟩
theorem lifted(os:Os)(started:os.Started)(H:Type)(enc:TypeId×Value→H):
  ReturnsInHanded {} Tryz.checked os 5 .any (fun w args=>(Rows.machineJumpsSpec.pre enc Tryz.prog Tryz.f5 [] false w args∧laidMetH Tryz.prog laidMc w)∧sizedMet enc Tryz.prog Tryz.f5 (OpenSpec.ofChange Rows.machineJumpsSpec) false w args) (Rows.machineJumpsSpec.post enc Tryz.prog Tryz.f5 false true false false):=by
 refine returnsInHanded_of_change_and (C:=Tryz.checked) (X:=fun w _=>laidMetH Tryz.prog laidMc w) (fun _ _ _ hh h=>h.of_heap hh) own started (by kernel_rfl) Tryz.func5
  (ChangeSpec.witness_shaped (enc:=enc) (C:=Tryz.checked) (os:=os) (X:=fun w _=>laidMetH Tryz.prog laidMc w) false (World.doorLaid Tryz.prog 1000 os) #[.int .u8 0, .agg #[.int .u64 0, .int .u64 0], .bool false] 8 rfl (World.shaped_of_RefB (by kernel_rfl) (by kernel_rfl)) (by kernel_rfl) (by kernel_rfl) (by kernel_rfl) (mach_met os _)) ?_
 intro W base args ds gs before hval0 hW _ _ hL _
 have hmach:MachAt W:=mach_of_laid hL
 have hval:∀(j:Nat) t v,Tryz.f5.params[j]? =some t→args[j]? =some v→Value.okWide Tryz.prog W .any base t v:=hval0
 have hW':=hW
 obtain ⟨p,q,hA0,hV,rfl,_,_⟩:=hW
 have hA:DataW.TrodAll enc Tryz.prog W 0 (fun _=>true) true Tryz.f5.params.toList args.toList ds p:=hA0
 rw [Tryz.params5] at hA hval
 obtain ⟨v0,vs0,d0,ds0,p0,q0,hargs,rfl,rfl,h0,r0⟩:=trodAll_cons hA
 obtain ⟨v1,vs1,d1,ds1,p1,q1,rfl,rfl,rfl,h1,r1⟩:=trodAll_cons r0
 obtain ⟨v2,vs2,d2,ds2,p2,q2,rfl,rfl,rfl,h2,r2⟩:=trodAll_cons r1
 obtain ⟨rfl,rfl,rfl⟩:=trodAll_nil r2
 obtain rfl:args= #[v0,v1,v2]:=by cases args;simp_all
 obtain ⟨rfl,rfl⟩:=trodVars_none hV
 have k0:=h0
 have lt0:∀x∈p0,x.block<W.heap.size:=by obtain ⟨m,hm⟩:=k0;exact DataW.trod_lt m _ _ _ hm
 have k1:=h1
 have lt1:∀x∈p1,x.block<W.heap.size:=by obtain ⟨m,hm⟩:=k1;exact DataW.trod_lt m _ _ _ hm
 have k2:=h2
 have lt2:∀x∈p2,x.block<W.heap.size:=by obtain ⟨m,hm⟩:=k2;exact DataW.trod_lt m _ _ _ hm
 have w0:=hval 0 5 v0 rfl rfl
 have w1:=hval 1 58 v1 rfl rfl
 have w2:=hval 2 4 v2 rfl rfl
 obtain ⟨c,rfl,rfl,rfl,wc⟩:=Go.ChangeShapes.open_int Tryz.underlying5 w0 h0
 have bc:=bounds_u8 wc
 obtain ⟨c,rfl⟩:=Int.eq_ofNat_of_zero_le (show 0≤c by omega)
 obtain ⟨a,b,rfl,la,lb⟩:=open_u2 w1 h1
 obtain ⟨sh,rfl,rfl,rfl,_⟩:=Go.RowKit.open_bool Tryz.underlying4 w2 h2
 clear hA0 hval0
 refine (walk c sh a b (by omega) la lb W hmach).mono fun e W' ⟨he,bel⟩=> ?_
 subst he
 exact ⟨_,rfl,_,_,_, [],_, [],hW',trodAll_mk1 (shut_bool Tryz.underlying4 _),(trodAll_cons_mk (Below.trod laidOut (by kernel_rfl) (of_decide_eq_true (by kernel_rfl)) k0 bel lt0) (trodAll_cons_mk (Below.trod laidOut (by kernel_rfl) (of_decide_eq_true (by kernel_rfl)) k1 bel lt1) (trodAll_cons_mk (Below.trod laidOut (by kernel_rfl) (of_decide_eq_true (by kernel_rfl)) k2 bel lt2) trodAll_mk0))),rfl,bel.frame _,fun h=>by cases h⟩
theorem and_t{a b:Bool}(h:a=true)(g:b=true):(a&&b)=true:=by rw [h,g];rfl
theorem closed:joinedFacts Tryz.pinned.checked.prog 5 Tryz.f5 Rows.machineJumpsSpec Rows.machineJumpsRow=true:=by
 unfold joinedFacts
 repeat' with_reducible refine and_t ?_ ?_
 all_goals as_aux_lemma=>kernel_rfl
theorem over:Rows.machineJumpsRow.holds Tryz.pinned (OpenSpec.ofChange Rows.machineJumpsSpec):=
 OpenClaim.holds_of_wide 5 Tryz.f5 rfl rfl rfl rfl rfl rfl rfl ⟨rfl,rfl,rfl,rfl,rfl⟩ rfl rfl rfl rfl rfl (by kernel_rfl) Tryz.func5 closed
  (of_decide_eq_true (by kernel_rfl)) (by unfold Func.isWrapper;first|(rw [if_pos (by decide+kernel)];kernel_rfl)|(rw [if_neg (by decide+kernel)];exact ⟨rfl,rfl⟩))
  (fun os started H enc _=>lifted os started H enc)
theorem proved:Rows.MachineJumpsCardSaid:=
 Claim7.holds_tied_plain_at .later [] [.data, .mapped, .mapped, .widerDeep, .mapped, .mapped, .mapped, .funcs, .data] true (true, "4de62e4630f25e2fcffbcac007238ba733660fc1924dfb0a001923be9068df01") true
  over (fun _ h=>by cases h) (by kernel_rfl) (fun _ h=>by cases h) machineJumps_row_tie rfl ⟨rfl,rfl⟩ (by kernel_rfl) rfl
  (fun f fn hf hfn=>by
   obtain rfl:f=5:=Option.some.inj ((show Tryz.prog.funcNamed "firewall/firewalllaw13.MachineJumps" =some 5 by kernel_rfl).symm.trans hf)|>.symm
   obtain rfl:fn=Tryz.f5:=(Option.some.inj (Tryz.func5.symm.trans hfn)).symm
   exact ⟨by kernel_rfl,fun j t ht=>by
    rw [Tryz.params5] at ht
    have hm:t∈ [5,58,4]:=by simpa using Array.mem_of_getElem? ht
    have hall:([5,58,4].all fun u=> !Tryz.prog.wantsStandIn u)=true:=by kernel_rfl
    exact (show Tryz.prog.wantsStandIn t=false by simpa using List.all_eq_true.1 hall t hm)⟩)
  (by kernel_rfl)
#print axioms proved
end Go.Proofs.YtkjhfnfneopopaaGreatDoor.lawMachineJumps
