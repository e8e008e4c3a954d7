/- The statement MachineStackSaid: for every input firewalllaw13.MachineStack returns true, and its argument reads afterwards as it read before; the nine listed variables start as the program's text lays them (the card ties them). No other condition. -/
import Derived.Test.YtjcgmhlbkheadaaGreatDoorNa2
import Derived.Test.YtjcgmhlbkheadaaGreatDoorU64q
import Derived.Test.YtjcgmhlbkheadaaGreatDoorCore42
import Derived.Test.YtjcgmhlbkheadaaGreatDoorTie
import Derived.Test.YtjcgmhlbkheadaaGreatDoorCards
import Derived.ProofKit
import Derived.LaidMore
import Derived.OpenShut
import Derived.Stop.Joined
import Derived.SevenTiedAt
set_option linter.all false
set_option linter.unusedVariables false
set_option linter.unusedSimpArgs false
set_option maxRecDepth 100000
set_option maxHeartbeats 8000000
namespace Go.Proofs.YtjcgmhlbkheadaaGreatDoor.lawMachineStack
open Go.ChangeShapes Go.WideShapes Go.ChangeAt Go.RowKit
theorem own:ownKnob Tryz.prog.godebug=none:=by kernel_rfl
theorem laidOut:laidOutB Tryz.prog=true:=by kernel_rfl
theorem walk(a:Option Addr)(n c g o:Nat)(l:List Nat)(w:World)(hl:∀x∈l,x<18446744073709551616)(hln:l.length=n)(hg:0<n→a=some ⟨g,o,none⟩∧CellsAt w g o (l.map fun x:Nat=>Value.int .u64 (x:Int)))(hm:MachAt w):
  Calls Tryz.prog 3 #[.slice a n c] w fun e w'=>e= .returned (.bool true)∧Below w.heap.size w w':=by
 by_cases h:n≤20
 ·exact (mstack_walk l hl n hln h a g o c w hg hm).mono fun _ _ ⟨he,hf⟩=>⟨he,hf.below⟩
 ·exact (mstack_long _ l w a c (by rw [hln]) (by omega) hm).mono fun _ _ ⟨he,hf⟩=>⟨he,hf.below⟩
theorem lifted(os:Os)(started:os.Started)(H:Type)(enc:TypeId×Value→H):
  ReturnsInHanded {} Tryz.checked os 3 .any (fun w args=>(Rows.machineStackSpec.pre enc Tryz.prog Tryz.f3 [] false w args∧laidMetH Tryz.prog laidMc w)∧sizedMet enc Tryz.prog Tryz.f3 (OpenSpec.ofChange Rows.machineStackSpec) false w args) (Rows.machineStackSpec.post enc Tryz.prog Tryz.f3 false true false false):=by
 refine returnsInHanded_of_change_and (C:=Tryz.checked) (X:=fun w _=>laidMetH Tryz.prog laidMc w) (fun _ _ _ hh h=>h.of_heap hh) own started (by kernel_rfl) Tryz.func3
  (ChangeSpec.witness_shaped (enc:=enc) (C:=Tryz.checked) (os:=os) (X:=fun w _=>laidMetH Tryz.prog laidMc w) false (World.doorLaid Tryz.prog 1000 os) #[.slice none 0 0] 8 rfl (World.shaped_of_RefB (by kernel_rfl) (by kernel_rfl)) (by kernel_rfl) (by kernel_rfl) (by kernel_rfl) (mach_met os _)) ?_
 intro W base args ds gs before hval0 hW _ _ hL _
 have hmach:MachAt W:=mach_of_laid hL
 have hval:∀(j:Nat) t v,Tryz.f3.params[j]? =some t→args[j]? =some v→Value.okWide Tryz.prog W .any base t v:=hval0
 have hW':=hW
 obtain ⟨p,q,hA0,hV,rfl,_,_⟩:=hW
 have hA:DataW.TrodAll enc Tryz.prog W 0 (fun _=>true) true Tryz.f3.params.toList args.toList ds p:=hA0
 rw [Tryz.params3] at hA hval
 obtain ⟨v0,vs0,d0,ds0,p0,q0,hargs,rfl,rfl,h0,r0⟩:=trodAll_cons hA
 obtain ⟨rfl,rfl,rfl⟩:=trodAll_nil r0
 obtain rfl:args= #[v0]:=by cases args;simp_all
 obtain ⟨rfl,rfl⟩:=trodVars_none hV
 have k0:=h0
 have lt0:∀x∈p0,x.block<W.heap.size:=by obtain ⟨m,hm⟩:=k0;exact DataW.trod_lt m _ _ _ hm
 have w0:=hval 0 22 v0 rfl rfl
 obtain ⟨a,n,c,l,rfl,hln,hl,g,o,hg⟩:=open_u64q (slice_cells Tryz.underlying22 w0) h0
 clear hA0 hval0
 refine (walk a n c g o l W hl hln hg hmach).mono fun e W' ⟨he,bel⟩=> ?_
 subst he
 exact ⟨_,rfl,_,_,_, [],_, [],hW',trodAll_mk1 (shut_bool Tryz.underlying4 _),(trodAll_cons_mk (Below.trod laidOut (by kernel_rfl) (of_decide_eq_true (by kernel_rfl)) k0 bel lt0) trodAll_mk0),rfl,bel.frame _,fun h=>by cases h⟩
theorem and_t{a b:Bool}(h:a=true)(g:b=true):(a&&b)=true:=by rw [h,g];rfl
theorem closed:joinedFacts Tryz.pinned.checked.prog 3 Tryz.f3 Rows.machineStackSpec Rows.machineStackRow=true:=by
 unfold joinedFacts
 repeat' with_reducible refine and_t ?_ ?_
 all_goals as_aux_lemma=>kernel_rfl
theorem over:Rows.machineStackRow.holds Tryz.pinned (OpenSpec.ofChange Rows.machineStackSpec):=
 OpenClaim.holds_of_wide 3 Tryz.f3 rfl rfl rfl rfl rfl rfl rfl ⟨rfl,rfl,rfl,rfl,rfl⟩ rfl rfl rfl rfl rfl (by kernel_rfl) Tryz.func3 closed
  (of_decide_eq_true (by kernel_rfl)) (by unfold Func.isWrapper;first|(rw [if_pos (by decide+kernel)];kernel_rfl)|(rw [if_neg (by decide+kernel)];exact ⟨rfl,rfl⟩))
  (fun os started H enc _=>lifted os started H enc)
theorem proved:Rows.MachineStackCardSaid:=
 Claim7.holds_tied_plain_at .later [] [.data, .mapped, .mapped, .widerDeep, .mapped, .mapped, .mapped, .funcs, .data] true (true, "ac208b2d75f6c8e3dc3ba89b427c559883458432815d11cfeb73282b4d294ce4") true
  over (fun _ h=>by cases h) (by kernel_rfl) (fun _ h=>by cases h) machineStack_row_tie rfl ⟨rfl,rfl⟩ (by kernel_rfl) rfl
  (fun f fn hf hfn=>by
   obtain rfl:f=3:=Option.some.inj ((show Tryz.prog.funcNamed "firewall/firewalllaw13.MachineStack" =some 3 by kernel_rfl).symm.trans hf)|>.symm
   obtain rfl:fn=Tryz.f3:=(Option.some.inj (Tryz.func3.symm.trans hfn)).symm
   exact ⟨by kernel_rfl,fun j t ht=>by
    rw [Tryz.params3] at ht
    have hm:t∈ [22]:=by simpa using Array.mem_of_getElem? ht
    have hall:([22].all fun u=> !Tryz.prog.wantsStandIn u)=true:=by kernel_rfl
    exact (show Tryz.prog.wantsStandIn t=false by simpa using List.all_eq_true.1 hall t hm)⟩)
  (by kernel_rfl)
#print axioms proved
end Go.Proofs.YtjcgmhlbkheadaaGreatDoor.lawMachineStack
