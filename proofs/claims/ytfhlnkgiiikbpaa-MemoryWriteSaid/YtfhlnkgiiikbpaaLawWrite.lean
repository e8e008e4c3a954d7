/- The statement MemoryWriteSaid: for every input firewalllaw07.MemoryWrite returns true, and its three arguments read afterwards as they read before. No condition. -/
import Derived.Test.YtfhlnkgiiikbpaaWr3
import Derived.Test.YtfhlnkgiiikbpaaAct7
import Derived.ProofKit
import Derived.OpenShut
namespace Go.Proofs.Ytfhlnkgiiikbpaa.lawMemoryWrite
open Go.ChangeShapes Go.WideShapes Go.ChangeAt Go.RowKit

theorem own : ownKnob Try.prog.godebug = none := by kernel_rfl
theorem laidOut : laidOutB Try.prog = true := by kernel_rfl
theorem walk (s : ByteArray) (base kind addr V : Nat) (N : Int) (h1 : base < 4294967296) (hV : V < 2 ^ 64) (hn1 : -9223372036854775808 ≤ N) (hn2 : N ≤ 9223372036854775807) (w : World) :
    Calls Try.prog 5 #[.string s, .int .u32 base, .agg #[.int .u8 kind, .int .u64 addr, .int .u64 V, .int .i64 N]] w fun e w' => e = .returned (.bool true) ∧ Below w.heap.size w w' := by
  by_cases h8 : s.size < 8
  · exact (mwrite_short s _ _ _ _ _ s.size w rfl h8).mono fun _ _ ⟨he, hf⟩ => ⟨he, hf.below⟩
  by_cases h300 : 300 < s.size
  · exact (mwrite_long s _ _ _ _ _ s.size w rfl h300).mono fun _ _ ⟨he, hf⟩ => ⟨he, hf.below⟩
  obtain ⟨j, hj, hb⟩ := and3 N
  obtain ⟨n, hs, hn1, hn8, hw⟩ := shl_j j hj
  have hs0 : s = ⟨s.data.toList.toArray⟩ := by apply ByteArray.ext; simp
  have hlen : s.data.toList.length = s.size := Array.length_toList
  have hm : ((addr : Int) % ((s.size : Int) - n + 1)) = ((addr % (s.size - n + 1) : Nat) : Int) := by
    rw [show ((s.size : Int) - n + 1) = ((s.size - n + 1 : Nat) : Int) by omega]; exact (Int.natCast_emod _ _).symm
  have hk : addr % (s.size - n + 1) < s.size - n + 1 := Nat.mod_lt _ (by omega)
  have := mwrite_walk s.data.toList _ _ s.size base addr V n (addr % (s.size - n + 1)) j _ kind N w hlen (by omega) (by omega) (IntWalk.u64_in _ (by omega)) hb hw hs hn1 hn8 hm (by omega) h1 hV rfl rfl rfl
  rw [← hs0] at this
  exact this.mono fun _ _ ⟨he, hf⟩ => ⟨he, hf.below⟩

set_option maxRecDepth 100000 in
theorem lifted (os : Os) (started : os.Started) (H : Type) (enc : TypeId × Value → H) :
    ReturnsInHanded {} Try.checked os 5 .any (Rows.memoryWriteSpec.pre6 enc Try.prog Try.f5 Rows.memoryWriteRow.domain false) (Rows.memoryWriteSpec.post enc Try.prog Try.f5 false true false false) := by
  refine returnsInHanded_of_change (C := Try.checked) own started (by kernel_rfl) Try.func5
    (ChangeSpec.witness6 (enc := enc) (C := Try.checked) false ⟨#[], #[.string ⟨#[]⟩, .int .u32 0, .agg #[.int .u8 0, .int .u64 0, .int .u64 0, .int .i64 0]], []⟩ 8 (by kernel_rfl) (by kernel_rfl) (by kernel_rfl) (by kernel_rfl)) ?_
  intro W base args ds gs before hval0 hW _ _
  have hval : ∀ (j : Nat) t v, Try.f5.params[j]? = some t → args[j]? = some v → Value.okWide Try.prog W .any base t v := hval0
  have hW' := hW
  obtain ⟨p, q, hA0, hV, rfl, _, _⟩ := hW
  have hA : DataW.TrodAll enc Try.prog W 0 (fun _ => true) true Try.f5.params.toList args.toList ds p := hA0
  rw [Try.params5] at hA hval
  obtain ⟨v0, vs0, d0, ds0, p0, q0, hargs, rfl, rfl, h0, r0⟩ := trodAll_cons hA
  obtain ⟨v1, vs1, d1, ds1, p1, q1, rfl, rfl, rfl, h1, r1⟩ := trodAll_cons r0
  obtain ⟨v2, vs2, d2, ds2, p2, q2, rfl, rfl, rfl, h2, r2⟩ := trodAll_cons r1
  obtain ⟨rfl, rfl, rfl⟩ := trodAll_nil r2
  obtain rfl : args = #[v0, v1, v2] := by cases args; simp_all
  obtain ⟨rfl, rfl⟩ := trodVars_none hV
  have k0 := h0
  have lt0 : ∀ x ∈ p0, x.block < W.heap.size := by obtain ⟨m, hm⟩ := k0; exact DataW.trod_lt m _ _ _ hm
  have k1 := h1
  have lt1 : ∀ x ∈ p1, x.block < W.heap.size := by obtain ⟨m, hm⟩ := k1; exact DataW.trod_lt m _ _ _ hm
  have k2 := h2
  have lt2 : ∀ x ∈ p2, x.block < W.heap.size := by obtain ⟨m, hm⟩ := k2; exact DataW.trod_lt m _ _ _ hm
  obtain ⟨s, rfl, rfl, rfl, ws⟩ := Go.ChangeMaps.open_string Try.underlying9 (hval 0 9 v0 rfl rfl) h0
  obtain ⟨b, rfl, rfl, rfl, wb⟩ := Go.ChangeShapes.open_int Try.underlying34 (hval 1 34 v1 rfl rfl) h1
  obtain ⟨kind, addr, V, N, rfl, b1, b2, b3, b4, b5⟩ := open_act (hval 2 44 v2 rfl rfl) h2
  have bb := bounds_u32 wb
  obtain ⟨base', rfl⟩ := Int.eq_ofNat_of_zero_le (show 0 ≤ b by omega)
  clear hA0 hval0
  refine (walk s base' kind addr V N (by omega) b3 b4 b5 W).mono fun e W' ⟨he, bel⟩ => ?_
  subst he
  exact ⟨_, rfl, _, _, _, [], _, [], hW', trodAll_mk1 (shut_bool Try.underlying4 _), (trodAll_cons_mk (Below.trod laidOut (by kernel_rfl) (of_decide_eq_true (by kernel_rfl)) k0 bel lt0) (trodAll_cons_mk (Below.trod laidOut (by kernel_rfl) (of_decide_eq_true (by kernel_rfl)) k1 bel lt1) (trodAll_cons_mk (Below.trod laidOut (by kernel_rfl) (of_decide_eq_true (by kernel_rfl)) k2 bel lt2) trodAll_mk0))), rfl, bel.frame _, fun h => by cases h⟩

theorem over : Rows.memoryWriteRow.holds Try.pinned (OpenSpec.ofChange Rows.memoryWriteSpec) :=
  OpenClaim.holds_of_wide 5 Try.f5 rfl rfl rfl rfl rfl rfl rfl ⟨rfl, rfl, rfl, rfl, rfl⟩ rfl rfl rfl rfl rfl (by kernel_rfl) Try.func5 (by kernel_rfl)
    (of_decide_eq_true (by kernel_rfl)) (by unfold Func.isWrapper; first | (rw [if_pos (by decide +kernel)]; kernel_rfl) | (rw [if_neg (by decide +kernel)]; exact ⟨rfl, rfl⟩))
    (fun os started H enc _ => lifted os started H enc)

theorem proved : Rows.MemoryWriteSaid := over
#print axioms proved
end Go.Proofs.Ytfhlnkgiiikbpaa.lawMemoryWrite
