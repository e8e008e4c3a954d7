/- firewalllaw07.MemoryPlay: more regions, or more acts, than are gone through; and all of it. -/
import Derived.Test.YtfhlnkgiiikbpaaOpenRows
namespace Go.Proofs.Ytfhlnkgiiikbpaa
open Go.RowKit

set_option maxRecDepth 100000 in
set_option maxHeartbeats 400000 in
theorem play_great (v0 v1 : Value) (w : World) (hg : Calls Try.prog 18 #[v0, .int .i64 12] w fun e w' => e = .returned (.bool true) ∧ w = w') :
    Calls Try.prog 6 #[v0, v1] w fun e w' => e = .returned (.bool true) ∧ Fr No w w' := by
  have HG := Lib.hid hg
  clear hg
  go_enter Try.func6, Try.ntmps6
  go_wp2_with (first
    | (go_at_call 18; (with_reducible refine HG.out.mono ?_); rintro e w1 ⟨rfl, rfl⟩)
    | (go_at_call 9; (with_reducible refine (laid_any _).mono ?_); rintro e w2 ⟨rfl, hf⟩))
  go_ret
  exact ⟨rfl, hf⟩

set_option maxRecDepth 100000 in
set_option maxHeartbeats 400000 in
theorem play_many (v0 : Value) (ad : Option Addr) (L cap : Nat) (w : World) (hL : 100 < L) (hg : Calls Try.prog 18 #[v0, .int .i64 12] w fun e w' => e = .returned (.bool false) ∧ w = w') :
    Calls Try.prog 6 #[v0, .slice ad L cap] w fun e w' => e = .returned (.bool true) ∧ Fr No w w' := by
  have HG := Lib.hid hg
  have h1 : (100 : Int) < (L : Int) := by omega
  clear hg
  go_enter Try.func6, Try.ntmps6
  go_wp2_with (first
    | (go_at_call 18; (with_reducible refine HG.out.mono ?_); rintro e w1 ⟨rfl, rfl⟩)
    | (go_at_call 9; (with_reducible refine (laid_any _).mono ?_); rintro e w2 ⟨rfl, hf⟩))
  go_ret
  exact ⟨rfl, hf⟩

theorem play_any (rs : List Reg) (acts : List ActD) (v0 : Value) (ad : Option Addr) (ga oa cap : Nat) (w : World) (hsrc : SrcAt w v0 rs.length (aflat rs)) (ht : ∀ r ∈ rs, r.typed) (hm : rs.length ≤ maxLen)
    (hac : 0 < acts.length → ad = some ⟨ga, oa, none⟩ ∧ CellsAt w ga oa (actflat acts)) (hok : ∀ x ∈ acts, x.ok) :
    Calls Try.prog 6 #[v0, .slice ad acts.length cap] w fun e w' => e = .returned (.bool true) ∧ Below w.heap.size w w' := by
  have hr := srcAt_regs hsrc ht
  have hg := great_any rs v0 12 w hr (by unfold maxLen at hm; omega)
  by_cases hs : SmallM rs
  · have hgf : Calls Try.prog 18 #[v0, .int .i64 12] w fun e w' => e = .returned (.bool false) ∧ w = w' := by
      refine hg.mono ?_
      rintro e w' ⟨⟨t, rfl, ht⟩, rfl⟩
      cases t with
      | false => exact ⟨rfl, rfl⟩
      | true =>
        exfalso
        rcases ht.1 rfl with ⟨r, hr1, hr2⟩ | h
        · have := hs.2 r hr1; omega
        · have := hs.1; omega
    by_cases hL : acts.length ≤ 100
    · exact (play_walk rs acts v0 ad ga oa acts.length cap w hsrc hr hs rfl hL hac hok).mono fun _ _ ⟨he, hf⟩ => ⟨he, hf.below⟩
    · exact (play_many v0 ad acts.length cap w (by omega) hgf).mono fun _ _ ⟨he, hf⟩ => ⟨he, hf.below⟩
  · refine (play_great v0 _ w (hg.mono ?_)).mono fun _ _ ⟨he, hf⟩ => ⟨he, hf.below⟩
    rintro e w' ⟨⟨t, rfl, ht⟩, rfl⟩
    cases t with
    | true => exact ⟨rfl, rfl⟩
    | false =>
      exfalso
      refine hs ⟨?_, fun r hr1 => ?_⟩
      · exact Nat.le_of_not_lt fun h => Bool.noConfusion (ht.2 (.inr h))
      · exact Nat.le_of_not_lt fun h => Bool.noConfusion (ht.2 (.inl ⟨r, hr1, h⟩))

end Go.Proofs.Ytfhlnkgiiikbpaa
