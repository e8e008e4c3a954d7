/- firewalllaw08.MapsHash: at any input. -/
import Derived.Test.YtlinnhaodkiolaaHash8
namespace Go.Proofs.Ytlinnhaodkiolaa
open Go.RowKit

set_option maxRecDepth 100000 in
set_option maxHeartbeats 400000 in
theorem hash8_great (p : Value) (a : Option Addr) (n c : Nat) (w : World) (h : 150 < n) : Calls Try.prog 3 #[p, .slice a n c] w fun e w' => e = .returned (.bool true) ∧ Fr No w w' := by
  have q : decide ((150 : Int) < (n : Int)) = true := by simp; omega
  go_enter Try.func3, Try.ntmps3
  go_wp2_with (go_at_call 7; refine (kept_any _).mono ?_; rintro e w9 ⟨rfl, hlf⟩)
  go_ret
  exact ⟨rfl, hlf⟩

set_option maxRecDepth 100000 in
set_option maxHeartbeats 1000000 in
theorem hash8_zero (places : Nat) (hp : places < 256) (a : Option Addr) (c : Nat) (w : World) : Calls Try.prog 3 #[.int .u8 places, .slice a 0 c] w fun e w' => e = .returned (.bool true) ∧ Fr No w w' := by
  obtain ⟨many, hmany⟩ : ∃ many : Nat, many = 1 + places % 16 := ⟨_, rfl⟩
  have hm1 : 1 ≤ many := by omega
  have hm16 : many ≤ 16 := by omega
  have q1 : (1 : Int) + (places : Int) % 16 = many := by omega
  clear hmany
  go_enter Try.func3, Try.ntmps3
  go_wp2_with fail
  refine (hashed_any many hm1 hm16 w).mono ?_
  rintro e w1 ⟨b, mb, A, H, T, rfl, HK, HB⟩
  have HF := Lib.hid HK.out.fr
  clear HK HB q1
  go_wp2_with fail
  refine wp_loop_rounds 1 ?_
  rw [rounds_succ]
  go_wp2_with (go_at_call 7; refine (kept_any _).mono ?_; rintro e w9 ⟨rfl, hlf⟩)
  go_ret
  exact ⟨rfl, HF.out.trans hlf⟩

theorem hash8_any (places : Nat) (hp : places < 256) (l : List (UInt8 × UInt8)) (v : Value) (w : World) (h : CellsIn w v l.length (pflat l)) : Calls Try.prog 3 #[.int .u8 places, v] w fun e w' => e = .returned (.bool true) ∧ Below w.heap.size w w' := by
  have key : Calls Try.prog 3 #[.int .u8 places, v] w fun e w' => e = .returned (.bool true) ∧ Fr No w w' := by
    rcases h with ⟨_, a, c, rfl⟩ | ⟨g, off, cap, rfl, hc⟩
    · exact hash8_zero places hp a c w
    · by_cases h1 : 150 < l.length
      · exact hash8_great _ _ _ _ w h1
      · rcases Nat.eq_zero_or_pos l.length with h0 | h0
        · rw [h0]; exact hash8_zero places hp _ _ w
        · exact hash8_walk g off l.length cap l places hp w rfl (by omega) hc
  exact key.mono fun _ _ ⟨he, hf⟩ => ⟨he, hf.below⟩

end Go.Proofs.Ytlinnhaodkiolaa
