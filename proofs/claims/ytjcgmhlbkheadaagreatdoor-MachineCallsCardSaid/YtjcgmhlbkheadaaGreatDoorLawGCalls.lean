/- The statement MachineCallsSaid: for every input firewalllaw13.MachineCalls returns true, and its arguments read afterwards as they read before; the nine listed variables start as the program's text lays them (the card ties them). No other condition. -/
import Derived.Test.YtjcgmhlbkheadaaGreatDoorNa3
import Derived.Test.YtjcgmhlbkheadaaGreatDoorBytes24
import Derived.Test.YtjcgmhlbkheadaaGreatDoorCore42
import Derived.Test.YtjcgmhlbkheadaaGreatDoorTie
import Derived.Test.YtjcgmhlbkheadaaGreatDoorCards
import Derived.ProofKit
import Derived.LaidMore
import Derived.OpenShut
import Derived.Stop.Joined
import Derived.SevenTiedAt
set_option linter.all false
set_option linter.unusedVariables false
set_option linter.unusedSimpArgs false
set_option maxRecDepth 100000
set_option maxHeartbeats 8000000
namespace Go.Proofs.YtjcgmhlbkheadaaGreatDoor.lawMachineCalls
open Go.ChangeShapes Go.WideShapes Go.ChangeAt Go.RowKit
theorem own:ownKnob Tryz.prog.godebug=none:=by kernel_rfl
theorem laidOut:laidOutB Tryz.prog=true:=by kernel_rfl
theorem walk(k0 k1 v0 v1 v2 v3:UInt8)(x:Nat)(hx:x<18446744073709551616)(w:World)(hm:MachAt w):
  Calls Tryz.prog 4 #[.agg #[.int .u8 k0.toNat, .int .u8 k1.toNat], .agg #[.int .u8 v0.toNat, .int .u8 v1.toNat, .int .u8 v2.toNat, .int .u8 v3.toNat], .int .u64 x] w fun e w'=>e= .returned (.bool true)∧Below w.heap.size w w':=
 (mcalls_walk k0 k1 v0 v1 v2 v3 x hx w hm).mono fun _ _ ⟨he,hf⟩=>⟨he,hf.below⟩
theorem lifted(os:Os)(started:os.Started)(H:Type)(enc:TypeId×Value→H):
  ReturnsInHanded {} Tryz.checked os 4 .any (fun w args=>(Rows.machineCallsSpec.pre enc Tryz.prog Tryz.f4 [] false w args∧laidMetH Tryz.prog laidMc w)∧sizedMet enc Tryz.prog Tryz.f4 (OpenSpec.ofChange Rows.machineCallsSpec) false w args) (Rows.machineCallsSpec.post enc Tryz.prog Tryz.f4 false true false false):=by
 refine returnsInHanded_of_change_and (C:=Tryz.checked) (X:=fun w _=>laidMetH Tryz.prog laidMc w) (fun _ _ _ hh h=>h.of_heap hh) own started (by kernel_rfl) Tryz.func4
  (ChangeSpec.witness_shaped (enc:=enc) (C:=Tryz.checked) (os:=os) (X:=fun w _=>laidMetH Tryz.prog laidMc w) false (World.doorLaid Tryz.prog 1000 os) #[.agg #[.int .u8 0, .int .u8 0], .agg #[.int .u8 0, .int .u8 0, .int .u8 0, .int .u8 0], .int .u64 0] 8 rfl (World.shaped_of_RefB (by kernel_rfl) (by kernel_rfl)) (by kernel_rfl) (by kernel_rfl) (by kernel_rfl) (mach_met os _)) ?_
 intro W base args ds gs before hval0 hW _ _ hL _
 have hmach:MachAt W:=mach_of_laid hL
 have hval:∀(j:Nat) t v,Tryz.f4.params[j]? =some t→args[j]? =some v→Value.okWide Tryz.prog W .any base t v:=hval0
 have hW':=hW
 obtain ⟨p,q,hA0,hV,rfl,_,_⟩:=hW
 have hA:DataW.TrodAll enc Tryz.prog W 0 (fun _=>true) true Tryz.f4.params.toList args.toList ds p:=hA0
 rw [Tryz.params4] at hA hval
 obtain ⟨v0,vs0,d0,ds0,p0,q0,hargs,rfl,rfl,h0,r0⟩:=trodAll_cons hA
 obtain ⟨v1,vs1,d1,ds1,p1,q1,rfl,rfl,rfl,h1,r1⟩:=trodAll_cons r0
 obtain ⟨v2,vs2,d2,ds2,p2,q2,rfl,rfl,rfl,h2,r2⟩:=trodAll_cons r1
 obtain ⟨rfl,rfl,rfl⟩:=trodAll_nil r2
 obtain rfl:args= #[v0,v1,v2]:=by cases args;simp_all
 obtain ⟨rfl,rfl⟩:=trodVars_none hV
 have k0:=h0
 have lt0:∀x∈p0,x.block<W.heap.size:=by obtain ⟨m,hm⟩:=k0;exact DataW.trod_lt m _ _ _ hm
 have k1:=h1
 have lt1:∀x∈p1,x.block<W.heap.size:=by obtain ⟨m,hm⟩:=k1;exact DataW.trod_lt m _ _ _ hm
 have k2:=h2
 have lt2:∀x∈p2,x.block<W.heap.size:=by obtain ⟨m,hm⟩:=k2;exact DataW.trod_lt m _ _ _ hm
 have w0:=hval 0 48 v0 rfl rfl
 have w1:=hval 1 49 v1 rfl rfl
 have w2:=hval 2 25 v2 rfl rfl
 obtain ⟨ka,kb,rfl⟩:=open_b2 w0 h0
 obtain ⟨va,vb,vc,vd,rfl⟩:=open_b4 w1 h1
 obtain ⟨n,rfl,rfl,rfl,wx⟩:=Go.ChangeShapes.open_int Tryz.underlying25 w2 h2
 have bx:=bounds_u64 wx
 obtain ⟨n,rfl⟩:=Int.eq_ofNat_of_zero_le (show 0≤n by omega)
 clear hA0 hval0
 refine (walk ka kb va vb vc vd n (by omega) W hmach).mono fun e W' ⟨he,bel⟩=> ?_
 subst he
 exact ⟨_,rfl,_,_,_, [],_, [],hW',trodAll_mk1 (shut_bool Tryz.underlying4 _),(trodAll_cons_mk (Below.trod laidOut (by kernel_rfl) (of_decide_eq_true (by kernel_rfl)) k0 bel lt0) (trodAll_cons_mk (Below.trod laidOut (by kernel_rfl) (of_decide_eq_true (by kernel_rfl)) k1 bel lt1) (trodAll_cons_mk (Below.trod laidOut (by kernel_rfl) (of_decide_eq_true (by kernel_rfl)) k2 bel lt2) trodAll_mk0))),rfl,bel.frame _,fun h=>by cases h⟩
theorem and_t{a b:Bool}(h:a=true)(g:b=true):(a&&b)=true:=by rw [h,g];rfl
theorem closed:joinedFacts Tryz.pinned.checked.prog 4 Tryz.f4 Rows.machineCallsSpec Rows.machineCallsRow=true:=by
 unfold joinedFacts
 repeat' with_reducible refine and_t ?_ ?_
 all_goals as_aux_lemma=>kernel_rfl
theorem over:Rows.machineCallsRow.holds Tryz.pinned (OpenSpec.ofChange Rows.machineCallsSpec):=
 OpenClaim.holds_of_wide 4 Tryz.f4 rfl rfl rfl rfl rfl rfl rfl ⟨rfl,rfl,rfl,rfl,rfl⟩ rfl rfl rfl rfl rfl (by kernel_rfl) Tryz.func4 closed
  (of_decide_eq_true (by kernel_rfl)) (by unfold Func.isWrapper;first|(rw [if_pos (by decide+kernel)];kernel_rfl)|(rw [if_neg (by decide+kernel)];exact ⟨rfl,rfl⟩))
  (fun os started H enc _=>lifted os started H enc)
theorem proved:Rows.MachineCallsCardSaid:=
 Claim7.holds_tied_plain_at .later [] [.data, .mapped, .mapped, .widerDeep, .mapped, .mapped, .mapped, .funcs, .data] true (true, "ac208b2d75f6c8e3dc3ba89b427c559883458432815d11cfeb73282b4d294ce4") true
  over (fun _ h=>by cases h) (by kernel_rfl) (fun _ h=>by cases h) machineCalls_row_tie rfl ⟨rfl,rfl⟩ (by kernel_rfl) rfl
  (fun f fn hf hfn=>by
   obtain rfl:f=4:=Option.some.inj ((show Tryz.prog.funcNamed "firewall/firewalllaw13.MachineCalls" =some 4 by kernel_rfl).symm.trans hf)|>.symm
   obtain rfl:fn=Tryz.f4:=(Option.some.inj (Tryz.func4.symm.trans hfn)).symm
   exact ⟨by kernel_rfl,fun j t ht=>by
    rw [Tryz.params4] at ht
    have hm:t∈ [48,49,25]:=by simpa using Array.mem_of_getElem? ht
    have hall:([48,49,25].all fun u=> !Tryz.prog.wantsStandIn u)=true:=by kernel_rfl
    exact (show Tryz.prog.wantsStandIn t=false by simpa using List.all_eq_true.1 hall t hm)⟩)
  (by kernel_rfl)
#print axioms proved
end Go.Proofs.YtjcgmhlbkheadaaGreatDoor.lawMachineCalls
