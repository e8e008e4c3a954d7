/- The statement MapsNoneSaid: for every input firewalllaw08.MapsNone returns true, and its two arguments read afterwards as they read before. No condition. -/
import Derived.Test.YtlinnhaodkiolaaNone8
import Derived.Test.YtlinnhaodkiolaaAct8
import Derived.ProofKit
import Derived.OpenShut
namespace Go.Proofs.Ytlinnhaodkiolaa.lawMapsNone
open Go.ChangeShapes Go.WideShapes Go.ChangeAt Go.RowKit

theorem own : ownKnob Try.prog.godebug = none := by kernel_rfl
theorem laidOut : laidOutB Try.prog = true := by kernel_rfl

theorem walk (kind : Nat) (i : Int) (K V : ByteArray) (mk me mv mm : Int) (w : World) :
    Calls Try.prog 5 #[.agg #[.int .u8 kind, .int .i64 i, .string K, .string V], .agg #[.int .i64 mk, .int .i64 me, .int .i64 mv, .int .i64 mm]] w fun e w' => e = .returned (.bool true) ∧ Below w.heap.size w w' :=
  (none8_walk kind i K V ⟨mk, me, mv, mm⟩ w).mono fun _ _ ⟨he, hf⟩ => ⟨he, hf.below⟩


set_option maxRecDepth 100000 in
theorem lifted (os : Os) (started : os.Started) (H : Type) (enc : TypeId × Value → H) :
    ReturnsInHanded {} Try.checked os 5 .any (Rows.mapsNoneSpec.pre6 enc Try.prog Try.f5 Rows.mapsNoneRow.domain false) (Rows.mapsNoneSpec.post enc Try.prog Try.f5 false true false false) := by
  refine returnsInHanded_of_change (C := Try.checked) own started (by kernel_rfl) Try.func5
    (ChangeSpec.witness6 (enc := enc) (C := Try.checked) false ⟨#[], #[.agg #[.int .u8 0, .int .i64 0, .string ⟨#[]⟩, .string ⟨#[]⟩], .agg #[.int .i64 0, .int .i64 0, .int .i64 0, .int .i64 0]], []⟩ 8 (by kernel_rfl) (by kernel_rfl) (by kernel_rfl) (by kernel_rfl)) ?_
  intro W base args ds gs before hval0 hW _ _
  have hval : ∀ (j : Nat) t v, Try.f5.params[j]? = some t → args[j]? = some v → Value.okWide Try.prog W .any base t v := hval0
  have hW' := hW
  obtain ⟨p, q, hA0, hV, rfl, _, _⟩ := hW
  have hA : DataW.TrodAll enc Try.prog W 0 (fun _ => true) true Try.f5.params.toList args.toList ds p := hA0
  rw [Try.params5] at hA hval
  obtain ⟨v0, vs0, d0, ds0, p0, q0, hargs, rfl, rfl, h0, r0⟩ := trodAll_cons hA
  obtain ⟨v1, vs1, d1, ds1, p1, q1, rfl, rfl, rfl, h1, r1⟩ := trodAll_cons r0
  obtain ⟨rfl, rfl, rfl⟩ := trodAll_nil r1
  obtain rfl : args = #[v0, v1] := by cases args; simp_all
  obtain ⟨rfl, rfl⟩ := trodVars_none hV
  have k0 := h0
  have lt0 : ∀ x ∈ p0, x.block < W.heap.size := by obtain ⟨m, hm⟩ := k0; exact DataW.trod_lt m _ _ _ hm
  have k1 := h1
  have lt1 : ∀ x ∈ p1, x.block < W.heap.size := by obtain ⟨m, hm⟩ := k1; exact DataW.trod_lt m _ _ _ hm
  have w0 := hval 0 47 v0 rfl rfl
  have w1 := hval 1 49 v1 rfl rfl
  obtain ⟨kind, i, K, V, rfl, _⟩ := open_actm w0 h0
  obtain ⟨mk, me, mv, mm, rfl, _⟩ := open_mapd w1 h1
  clear hA0 hval0
  refine (walk kind i K V mk me mv mm W).mono fun e W' ⟨he, bel⟩ => ?_
  subst he
  exact ⟨_, rfl, _, _, _, [], _, [], hW', trodAll_mk1 (shut_bool Try.underlying4 _), (trodAll_cons_mk (Below.trod laidOut (by kernel_rfl) (of_decide_eq_true (by kernel_rfl)) k0 bel lt0) (trodAll_cons_mk (Below.trod laidOut (by kernel_rfl) (of_decide_eq_true (by kernel_rfl)) k1 bel lt1) trodAll_mk0)), rfl, bel.frame _, fun h => by cases h⟩

theorem over : Rows.mapsNoneRow.holds Try.pinned (OpenSpec.ofChange Rows.mapsNoneSpec) :=
  OpenClaim.holds_of_wide 5 Try.f5 rfl rfl rfl rfl rfl rfl rfl ⟨rfl, rfl, rfl, rfl, rfl⟩ rfl rfl rfl rfl rfl (by kernel_rfl) Try.func5 (by kernel_rfl)
    (of_decide_eq_true (by kernel_rfl)) (by unfold Func.isWrapper; first | (rw [if_pos (by decide +kernel)]; kernel_rfl) | (rw [if_neg (by decide +kernel)]; exact ⟨rfl, rfl⟩))
    (fun os started H enc _ => lifted os started H enc)

theorem proved : Rows.MapsNoneSaid := over
#print axioms proved
end Go.Proofs.Ytlinnhaodkiolaa.lawMapsNone
