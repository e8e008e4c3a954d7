/- The statement SpecNoneSaid: for every input firewalllaw14.SpecNone returns true, and its arguments read afterwards as they read before; the nine listed variables start as the program's text lays them (the card ties them). No other condition. -/
import Derived.Test.YtfmcmfiebehhiaaGreatDoorSpNa
import Derived.Test.YtfmcmfiebehhiaaGreatDoorOpenUse
import Derived.Test.YtfmcmfiebehhiaaGreatDoorCore46
import Derived.Test.YtfmcmfiebehhiaaGreatDoorTie
import Derived.Test.YtfmcmfiebehhiaaGreatDoorCards
import Derived.ProofKit
import Derived.LaidMore
import Derived.OpenShut
import Derived.Stop.Joined
import Derived.SevenTiedAt
set_option linter.all false
set_option linter.unusedVariables false
set_option linter.unusedSimpArgs false
set_option maxRecDepth 100000
set_option maxHeartbeats 8000000
namespace Go.Proofs.YtfmcmfiebehhiaaGreatDoor.lawSpecNone
open Go.Proofs.Tryz
open Go.ChangeShapes Go.WideShapes Go.ChangeAt Go.RowKit
theorem own:ownKnob prog.godebug=none:=by kernel_rfl
theorem laidOut:laidOutB prog=true:=by kernel_rfl
theorem walk(s:ByteArray)(x y:Int)(a:Option Addr)(n c:Nat)(w:World)(hm:MachAt w):
  Calls prog 3 #[.string s, .agg #[.int .i64 x, .slice a n c, .int .i64 y]] w fun e w'=>e= .returned (.bool true)∧Below w.heap.size w w':=
 (show s=bA' s.data.toList from rfl) ▸ (snone_walk s.data.toList x y a n c w hm).mono fun _ _ ⟨he,hf⟩=>⟨he,hf.below⟩
theorem lifted(os:Os)(started:os.Started)(H:Type)(enc:TypeId×Value→H):
  ReturnsInHanded {} Tryz.checked os 3 .any (fun w args=>(Rows.specNoneSpec.pre enc prog Tryz.f3 [] false w args∧laidMetH prog laidMc w)∧sizedMet enc prog Tryz.f3 (OpenSpec.ofChange Rows.specNoneSpec) false w args) (Rows.specNoneSpec.post enc prog Tryz.f3 false true false false):=by
 refine returnsInHanded_of_change_and (C:=Tryz.checked) (X:=fun w _=>laidMetH prog laidMc w) (fun _ _ _ hh h=>h.of_heap hh) own started (by kernel_rfl) func3
  (ChangeSpec.witness_shaped (enc:=enc) (C:=Tryz.checked) (os:=os) (X:=fun w _=>laidMetH prog laidMc w) false (World.doorLaid prog 1000 os) #[.string ⟨#[]⟩, .agg #[.int .i64 0, .slice none 0 0, .int .i64 0]] 8 rfl (World.shaped_of_RefB (by kernel_rfl) (by kernel_rfl)) (by kernel_rfl) (by kernel_rfl) (by kernel_rfl) (mach_met os _)) ?_
 intro W base args ds gs before hval0 hW _ _ hL _
 have hmach:MachAt W:=mach_of_laid hL
 have hval:∀(j:Nat) t v,Tryz.f3.params[j]? =some t→args[j]? =some v→Value.okWide prog W .any base t v:=hval0
 have hW':=hW
 obtain ⟨p,q,hA0,hV,rfl,_,_⟩:=hW
 have hA:DataW.TrodAll enc prog W 0 (fun _=>true) true Tryz.f3.params.toList args.toList ds p:=hA0
 rw [params3] at hA hval
 obtain ⟨v0,vs0,d0,ds0,p0,q0,hargs,rfl,rfl,h0,r0⟩:=trodAll_cons hA
 obtain ⟨v1,vs1,d1,ds1,p1,q1,rfl,rfl,rfl,h1,r1⟩:=trodAll_cons r0
 obtain ⟨rfl,rfl,rfl⟩:=trodAll_nil r1
 obtain rfl:args= #[v0,v1]:=by cases args;simp_all
 obtain ⟨rfl,rfl⟩:=trodVars_none hV
 have k0:=h0
 have lt0:∀x∈p0,x.block<W.heap.size:=by obtain ⟨m,hm⟩:=k0;exact DataW.trod_lt m _ _ _ hm
 have k1:=h1
 have lt1:∀x∈p1,x.block<W.heap.size:=by obtain ⟨m,hm⟩:=k1;exact DataW.trod_lt m _ _ _ hm
 have w0:=hval 0 9 v0 rfl rfl
 have w1:=hval 1 24 v1 rfl rfl
 obtain ⟨s,rfl,rfl,rfl,_⟩:=Go.ChangeMaps.open_string underlying9 w0 h0
 obtain ⟨ux,ua,un,uc,uy,rfl⟩:=open_use w1 h1
 clear hA0 hval0
 refine (walk s ux uy ua un uc W hmach).mono fun e W' ⟨he,bel⟩=> ?_
 subst he
 exact ⟨_,rfl,_,_,_, [],_, [],hW',trodAll_mk1 (shut_bool underlying4 _),(trodAll_cons_mk (Below.trod laidOut (by kernel_rfl) (of_decide_eq_true (by kernel_rfl)) k0 bel lt0) (trodAll_cons_mk (Below.trod laidOut (by kernel_rfl) (of_decide_eq_true (by kernel_rfl)) k1 bel lt1) trodAll_mk0)),rfl,bel.frame _,fun h=>by cases h⟩
theorem and_t{a b:Bool}(h:a=true)(g:b=true):(a&&b)=true:=by rw [h,g];rfl
theorem closed:joinedFacts Tryz.pinned.checked.prog 3 Tryz.f3 Rows.specNoneSpec Rows.specNoneRow=true:=by
 unfold joinedFacts
 repeat' with_reducible refine and_t ?_ ?_
 all_goals as_aux_lemma=>kernel_rfl
theorem over:Rows.specNoneRow.holds Tryz.pinned (OpenSpec.ofChange Rows.specNoneSpec):=
 OpenClaim.holds_of_wide 3 Tryz.f3 rfl rfl rfl rfl rfl rfl rfl ⟨rfl,rfl,rfl,rfl,rfl⟩ rfl rfl rfl rfl rfl (by kernel_rfl) func3 closed
  (of_decide_eq_true (by kernel_rfl)) (by unfold Func.isWrapper;first|(rw [if_pos (by decide+kernel)];kernel_rfl)|(rw [if_neg (by decide+kernel)];exact ⟨rfl,rfl⟩))
  (fun os started H enc _=>lifted os started H enc)
theorem proved:Rows.SpecNoneCardSaid:=
 Claim7.holds_tied_plain_at .later [] [.data, .mapped, .mapped, .widerDeep, .mapped, .mapped, .mapped, .funcs, .data] true (true, "4b19b728c6e408d0a45c334e10133746bdb21820fbfd0564bb4f7e0b91154920") true
  over (fun _ h=>by cases h) (by kernel_rfl) (fun _ h=>by cases h) specNone_row_tie rfl ⟨rfl,rfl⟩ (by kernel_rfl) rfl
  (fun f fn hf hfn=>by
   obtain rfl:f=3:=Option.some.inj ((show prog.funcNamed "firewall/firewalllaw14.SpecNone" =some 3 by kernel_rfl).symm.trans hf)|>.symm
   obtain rfl:fn=Tryz.f3:=(Option.some.inj (func3.symm.trans hfn)).symm
   exact ⟨by kernel_rfl,fun j t ht=>by
    rw [params3] at ht
    have hm:t∈ [9,24]:=by simpa using Array.mem_of_getElem? ht
    have hall:([9,24].all fun u=> !prog.wantsStandIn u)=true:=by kernel_rfl
    exact (show prog.wantsStandIn t=false by simpa using List.all_eq_true.1 hall t hm)⟩)
  (by kernel_rfl)
#print axioms proved
end Go.Proofs.YtfmcmfiebehhiaaGreatDoor.lawSpecNone

