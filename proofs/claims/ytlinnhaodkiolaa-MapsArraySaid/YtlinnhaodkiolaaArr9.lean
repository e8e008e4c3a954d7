/- firewalllaw08.MapsArray: at any numbers. -/
import Derived.Test.YtlinnhaodkiolaaArr8
namespace Go.Proofs.Ytlinnhaodkiolaa
open Go.RowKit

set_option maxHeartbeats 400000 in
theorem arr8_great (a : Option Addr) (n c : Nat) (w : World) (h : 100 < n) : Calls Try.prog 4 #[.slice a n c] w fun e w' => e = .returned (.bool true) ∧ Fr No w w' := by
  have q : decide ((100 : Int) < (n : Int)) = true := by simp; omega
  go_enter Try.func4, Try.ntmps4
  go_wp2_with (go_at_call 7; refine (kept_any _).mono ?_; rintro e w9 ⟨rfl, hlf⟩)
  go_ret
  exact ⟨rfl, hlf⟩

set_option maxHeartbeats 1000000 in
theorem arr8_zero (a : Option Addr) (c : Nat) (w : World) : Calls Try.prog 4 #[.slice a 0 c] w fun e w' => e = .returned (.bool true) ∧ Fr No w w' := by
  go_enter Try.func4, Try.ntmps4
  go_wp2_with fail
  refine (hashed_any 2 (by decide) (by decide) w).mono ?_
  rintro e w1 ⟨b, mb, A, H, T, rfl, HK, HB⟩
  have HK1 := Lib.hid (HK.out.to ((Fr.refl No w1).alloc (.cells #[.int .u8 0, .int .u8 0, .int .u8 0] 42)))
  clear HK HB
  go_wp2_with fail
  refine wp_loop_rounds 1 ?_
  rw [rounds_succ]
  go_wp2_with fail
  refine (HK1.out.len).mono ?_
  rintro e w3 ⟨rfl, rfl⟩
  go_wp2_with (go_at_call 7; refine (kept_any _).mono ?_; rintro e w9 ⟨rfl, hlf⟩)
  go_ret
  exact ⟨rfl, HK1.out.fr.trans hlf⟩

theorem arr8_any (l : List (UInt8 × UInt8)) (v : Value) (w : World) (h : CellsIn w v l.length (pflat l)) : Calls Try.prog 4 #[v] w fun e w' => e = .returned (.bool true) ∧ Below w.heap.size w w' := by
  have key : Calls Try.prog 4 #[v] w fun e w' => e = .returned (.bool true) ∧ Fr No w w' := by
    rcases h with ⟨_, a, c, rfl⟩ | ⟨g, off, cap, rfl, hc⟩
    · exact arr8_zero a c w
    · by_cases h1 : 100 < l.length
      · exact arr8_great _ _ _ w h1
      · rcases Nat.eq_zero_or_pos l.length with h0 | h0
        · rw [h0]; exact arr8_zero _ _ w
        · exact arr8_walk g off l.length cap l w rfl (by omega) hc
  exact key.mono fun _ _ ⟨he, hf⟩ => ⟨he, hf.below⟩

end Go.Proofs.Ytlinnhaodkiolaa
