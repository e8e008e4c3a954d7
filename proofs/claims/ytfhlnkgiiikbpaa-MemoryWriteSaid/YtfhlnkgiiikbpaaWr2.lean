/- nums.Low of all 64 bits. -/
import Derived.Test.YtfhlnkgiiikbpaaNums
namespace Go.Proofs.Ytfhlnkgiiikbpaa
open Go.RowKit

set_option maxHeartbeats 400000 in
theorem low_full (v : Int) (n : Nat) (w : World) (hn : 64 ≤ n) :
    Calls Try.prog 16 #[.int .u64 v, .int .i64 n] w fun e w' => e = .returned (.int .u64 v) ∧ w = w' := by
  go_enter Try.func16, Try.ntmps16
  go_wp2
  go_ret
  exact ⟨rfl, rfl⟩

/-- the low bits of so many bytes -/
theorem low_bytes (v n : Nat) (w : World) (hv : v < 2 ^ 64) (hn : n = 1 ∨ n = 2 ∨ n = 4 ∨ n = 8) :
    Calls Try.prog 16 #[.int .u64 v, .int .i64 ((8 * n : Nat) : Int)] w fun e w' => e = .returned (.int .u64 ((v % 256 ^ n : Nat) : Int)) ∧ w = w' := by
  rcases hn with rfl | rfl | rfl | rfl
  · exact low_any v 8 w (by omega)
  · exact low_any v 16 w (by omega)
  · exact low_any v 32 w (by omega)
  · have := low_full (v : Int) 64 w (by omega)
    rw [show v % 256 ^ 8 = v by omega]
    exact this

end Go.Proofs.Ytfhlnkgiiikbpaa
