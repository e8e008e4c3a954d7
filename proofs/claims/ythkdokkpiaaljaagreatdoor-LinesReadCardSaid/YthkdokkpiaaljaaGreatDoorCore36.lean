/- firewallref02: known, Check. -/
import Derived.Test.YthkdokkpiaaljaaGreatDoorCore2
import Derived.Deep.CutBlock
import Derived.Deep.DeepCutAuto
set_option linter.all false
set_option linter.unusedVariables false
set_option linter.unusedSimpArgs false
namespace Go.Proofs.YthkdokkpiaaljaaGreatDoor
open Go.RowKit

set_option maxRecDepth 100000 in
set_option maxHeartbeats 1000000 in
theorem known_any (op : Nat) (inner : Bool) (h : op < 256) (w : World) : Calls Tryz.prog 56 #[.int .u8 op, .bool inner] w fun e w' => e = .returned (.bool (knownB op inner)) ∧ w = w' := by
  have HA : Hid (∀ W, Calls Tryz.prog 57 #[.int .u8 op] W fun e w' => e = .returned (.bool (arithB op)) ∧ W = w') := fun W => arith_any op h W
  have HJ : Hid (∀ W, Calls Tryz.prog 59 #[.int .u8 op] W fun e w' => e = .returned (.bool (jumpB op)) ∧ W = w') := fun W => jump_any op h W
  have HS : Hid (∀ W, Calls Tryz.prog 60 #[.int .u8 op] W fun e w' => e = .returned (.bool (specB op)) ∧ W = w') := fun W => special_any op h W
  have HR : Hid (∀ W, Calls Tryz.prog 63 #[.int .u8 op] W fun e w' => e = .returned (.bool (regB op)) ∧ W = w') := fun W => regb_any op h W
  have HL : Hid (∀ W, Calls Tryz.prog 58 #[.int .u8 op] W fun e w' => e = .returned (.bool (loadB op)) ∧ W = w') := fun W => load_any op h W
  have HT : Hid (∀ W, Calls Tryz.prog 61 #[.int .u8 op] W fun e w' => e = .returned (.bool (storeB op)) ∧ W = w') := fun W => store_any op h W
  have HU : Hid (∀ W, Calls Tryz.prog 62 #[.int .u8 op] W fun e w' => e = .returned (.bool (storeRB op)) ∧ W = w') := fun W => storer_any op h W
  have HC : Hid (∀ W, Calls Tryz.prog 64 #[.int .u8 op] W fun e w' => e = .returned (.int .i64 (codeN op)) ∧ W = w') := fun W => code_any op h W
  have q1 : decide ((codeN op : Int) ≤ 192) = decide (codeN op ≤ 192) := by rw [Bool.eq_iff_iff]; simp; omega
  have q2 : decide ((codeN op : Int) ≤ 208) = decide (codeN op ≤ 208) := by rw [Bool.eq_iff_iff]; simp; omega
  have q3 : ((codeN op : Int) == 128) = (codeN op == 128) := beq_nat (codeN op) 128
  have q4 : ((op : Int) % 8 == 5) = (op % 8 == 5) := beq_mod op 8 5
  have q5 : ((op : Int) == 24) = (op == 24) := beq_nat op 24
  have q6 : ((op : Int) == 194) = (op == 194) := beq_nat op 194
  unfold knownB
  generalize decide (codeN op ≤ 192) = b1 at *
  generalize decide (codeN op ≤ 208) = b2 at *
  generalize (codeN op == 128) = b3 at *
  generalize (op % 8 == 5) = b4 at *
  generalize (op == 24) = b5 at *
  generalize (op == 194) = b6 at *
  generalize arithB op = a at *
  generalize jumpB op = j at *
  generalize specB op = s at *
  generalize regB op = r at *
  generalize loadB op = l at *
  generalize storeB op = t at *
  generalize storeRB op = u at *
  generalize codeN op = k at *
  clear h
  have fin : ∀ (z : Bool), (fun e w' => e = Ending.returned (.bool z) ∧ w = w') = (fun (e : Ending) (w' : World) => e = Ending.returned (.bool z) ∧ w = w') := fun z => rfl
  clear fin
  cases a
  · cases s
    · cases j
      · cases b5 <;> cases l <;> cases t <;> cases u <;> cases inner
        all_goals go_enter Tryz.func56, Tryz.ntmps56
        all_goals go_wp2_with (first
          | (go_at_call 57; (with_reducible refine (HA.out _).mono ?_); rintro e w1 ⟨rfl, rfl⟩)
          | (go_at_call 60; (with_reducible refine (HS.out _).mono ?_); rintro e w1 ⟨rfl, rfl⟩)
          | (go_at_call 58; (with_reducible refine (HL.out _).mono ?_); rintro e w1 ⟨rfl, rfl⟩)
          | (go_at_call 61; (with_reducible refine (HT.out _).mono ?_); rintro e w1 ⟨rfl, rfl⟩)
          | (go_at_call 62; (with_reducible refine (HU.out _).mono ?_); rintro e w1 ⟨rfl, rfl⟩)
          | (go_at_call 59; (with_reducible refine (HJ.out _).mono ?_); rintro e w1 ⟨rfl, rfl⟩))
        all_goals go_ret
        all_goals exact ⟨rfl, rfl⟩
      · go_enter Tryz.func56, Tryz.ntmps56
        go_wp2_with (first
          | (go_at_call 57; (with_reducible refine (HA.out _).mono ?_); rintro e w1 ⟨rfl, rfl⟩)
          | (go_at_call 60; (with_reducible refine (HS.out _).mono ?_); rintro e w1 ⟨rfl, rfl⟩)
          | (go_at_call 64; (with_reducible refine (HC.out _).mono ?_); rintro e w1 ⟨rfl, rfl⟩)
          | (go_at_call 59; (with_reducible refine (HJ.out _).mono ?_); rintro e w1 ⟨rfl, rfl⟩))
        go_ret
        exact ⟨rfl, rfl⟩
    · cases b4
      all_goals go_enter Tryz.func56, Tryz.ntmps56
      all_goals go_wp2_with (first
          | (go_at_call 57; (with_reducible refine (HA.out _).mono ?_); rintro e w1 ⟨rfl, rfl⟩)
          | (go_at_call 60; (with_reducible refine (HS.out _).mono ?_); rintro e w1 ⟨rfl, rfl⟩)
          | (go_at_call 63; (with_reducible refine (HR.out _).mono ?_); rintro e w1 ⟨rfl, rfl⟩))
      all_goals go_ret
      all_goals exact ⟨rfl, rfl⟩
  · cases b1 <;> cases b3
    all_goals go_enter Tryz.func56, Tryz.ntmps56
    all_goals go_wp2_with (first
          | (go_at_call 57; (with_reducible refine (HA.out _).mono ?_); rintro e w1 ⟨rfl, rfl⟩)
          | (go_at_call 64; (with_reducible refine (HC.out _).mono ?_); rintro e w1 ⟨rfl, rfl⟩)
          | (go_at_call 63; (with_reducible refine (HR.out _).mono ?_); rintro e w1 ⟨rfl, rfl⟩))
    all_goals go_ret
    all_goals exact ⟨rfl, rfl⟩
end Go.Proofs.YthkdokkpiaaljaaGreatDoor
