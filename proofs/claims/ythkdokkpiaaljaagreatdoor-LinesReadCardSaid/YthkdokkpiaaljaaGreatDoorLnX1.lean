/- firewallref03.char, walked. -/
import Derived.Test.YthkdokkpiaaljaaGreatDoorCore27
set_option linter.all false
set_option linter.unusedVariables false
set_option linter.unusedSimpArgs false
namespace Go.Proofs.YthkdokkpiaaljaaGreatDoor
open Go.RowKit

set_option maxRecDepth 100000 in
set_option maxHeartbeats 4000000 in
theorem char_any (S : ByteArray) (a : Nat) (ha : a < S.size) (hs : S.size ≤ 100000) (w : World) : Calls Tryz.prog 73 #[.string S, .int .i64 a] w fun e w' => e = .returned (.int .i64 (chr4 (byteZ S a) (byteZ S (a + 1)) (byteZ S (a + 2)) (byteZ S (a + 3)))) ∧ w = w' := by
  have b1 : (0 : Int) ≤ (a : Int) := by omega
  have b2 : (a : Int) < (S.size : Int) := by omega
  obtain ⟨R, hR⟩ : ∃ R, chr4 (byteZ S a) (byteZ S (a + 1)) (byteZ S (a + 2)) (byteZ S (a + 3)) = R := ⟨_, rfl⟩
  have HR := Lib.hid hR
  rw [hR]
  clear hR
  go_enter Tryz.func73, Tryz.ntmps73
  go_wp2_with fail
  all_goals (first | go_ret | (go_rounds 3; all_goals go_ret))
  all_goals refine ⟨?_, rfl⟩
  all_goals rw [← HR.out]
  all_goals clear HR
  all_goals refine congrArg (fun x : Int => Ending.returned (.int .i64 x)) ?_
  all_goals (try simp only [beq_eq_false_iff_ne, beq_iff_eq, ne_eq, Bool.or_eq_true, decide_eq_true_eq, decide_eq_false_iff_not, Bool.not_eq_true] at *)
  all_goals rw [byteZ_in ha]
  all_goals (by_cases k1 : a + 1 < S.size)
  all_goals (first | rw [byteZ_in k1] | rw [byteZ_out k1])
  all_goals (by_cases k2 : a + 2 < S.size)
  all_goals (first | rw [byteZ_in k2] | rw [byteZ_out k2])
  all_goals (by_cases k3 : a + 3 < S.size)
  all_goals (first | rw [byteZ_in k3] | rw [byteZ_out k3])
  all_goals (first | exact chr_is1 (by omega) | exact chr_is0 (by omega) (by omega) | exact chr_is2 (by omega) | exact chr_is3 (by omega) | exact chr_is4 (by omega) | (exfalso; omega))
end Go.Proofs.YthkdokkpiaaljaaGreatDoor
