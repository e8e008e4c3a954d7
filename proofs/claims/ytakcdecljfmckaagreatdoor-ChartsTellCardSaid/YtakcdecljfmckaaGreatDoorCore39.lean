/- firewallref02.Check. -/
import Derived.Test.YtakcdecljfmckaaGreatDoorCore38
import Derived.Test.YtakcdecljfmckaaGreatDoorCore2
import Derived.BigGuardPart
set_option linter.all false
set_option linter.unusedVariables false
set_option linter.unusedSimpArgs false
namespace Go.Proofs.YtakcdecljfmckaaGreatDoor
open Go.RowKit

theorem gt_nat (a b : Nat) : decide ((a : Int) > (b : Int)) = decide (b < a) := by rw [Bool.eq_iff_iff]; simp
def c22B (i : Ins) : Bool := decide (10 < i.dst) || decide (10 < i.src) || (writesB i.op && i.dst == 10)
def c21B (i : Ins) : Bool := (!dstB i.op && decide (0 < i.dst)) || (!srcB i.op && decide (0 < i.src)) || (!offB i.op && i.off != 0) || (!immB i.op && i.imm != 0) || (i.op == 24 && decide (1 < i.src))
def c23B (i : Ins) : Bool := ((codeN i.op == 96 || codeN i.op == 112 || codeN i.op == 192) && (decide (i.imm < 0) || decide ((if i.op % 8 = 7 then 63 else 31) < i.imm))) || ((codeN i.op == 48 || codeN i.op == 144) && i.imm == 0)
theorem checkI_eq (i : Ins) (inner : Bool) : checkI i inner = if !knownB i.op inner then 20 else if c22B i then 22 else if c21B i then 21 else if arithB i.op && immB i.op && c23B i then 23 else 0 := rfl

set_option maxRecDepth 100000 in
set_option maxHeartbeats 4000000 in
theorem refcheck_any (i : Ins) (inner : Bool) (hi : i.ok) (w : World) : Calls Tryz.prog 79 #[i.agg, .bool inner] w fun e w' => e = .returned (.int .i64 (checkI i inner)) ∧ Fr No w w' := by
  obtain ⟨R, hR⟩ : ∃ R, checkI i inner = R := ⟨_, rfl⟩
  have HRS : Hid ((if !knownB i.op inner then (20 : Int) else if c22B i then 22 else if c21B i then 21 else if arithB i.op && immB i.op && c23B i then 23 else 0) = R) := Lib.hid (by rw [← hR, checkI_eq])
  rw [hR]
  clear hR
  have h := hi.op
  have HK : Hid (∀ W, Calls Tryz.prog 110 #[.int .u8 i.op, .bool inner] W fun e w' => e = .returned (.bool (knownB i.op inner)) ∧ W = w') := fun W => known_any i.op inner h W
  have HA : Hid (∀ W, Calls Tryz.prog 111 #[.int .u8 i.op] W fun e w' => e = .returned (.bool (arithB i.op)) ∧ W = w') := fun W => arith_any i.op h W
  have HJ : Hid (∀ W, Calls Tryz.prog 82 #[.int .u8 i.op] W fun e w' => e = .returned (.bool (jumpB i.op)) ∧ W = w') := fun W => jump_any i.op h W
  have HS : Hid (∀ W, Calls Tryz.prog 113 #[.int .u8 i.op] W fun e w' => e = .returned (.bool (specB i.op)) ∧ W = w') := fun W => special_any i.op h W
  have HR : Hid (∀ W, Calls Tryz.prog 116 #[.int .u8 i.op] W fun e w' => e = .returned (.bool (regB i.op)) ∧ W = w') := fun W => regb_any i.op h W
  have HL : Hid (∀ W, Calls Tryz.prog 112 #[.int .u8 i.op] W fun e w' => e = .returned (.bool (loadB i.op)) ∧ W = w') := fun W => load_any i.op h W
  have HT : Hid (∀ W, Calls Tryz.prog 114 #[.int .u8 i.op] W fun e w' => e = .returned (.bool (storeB i.op)) ∧ W = w') := fun W => store_any i.op h W
  have HU : Hid (∀ W, Calls Tryz.prog 115 #[.int .u8 i.op] W fun e w' => e = .returned (.bool (storeRB i.op)) ∧ W = w') := fun W => storer_any i.op h W
  have HC : Hid (∀ W, Calls Tryz.prog 83 #[.int .u8 i.op] W fun e w' => e = .returned (.int .i64 (codeN i.op)) ∧ W = w') := fun W => code_any i.op h W
  obtain ⟨W0, hW0⟩ : ∃ W0, W0 = w.alloc (.cells #[.int .u8 i.op, .int .u8 i.dst, .int .u8 i.src, .int .i16 i.off, .int .i32 i.imm] 51) := ⟨_, rfl⟩
  have HF : Hid (Fr No w W0) := by rw [hW0]; exact (Fr.refl _ _).alloc _
  have cc : CellsAt W0 w.heap.size 0 i.cells := by rw [hW0]; exact CellsAt.new w i.cells _
  have m0 := cc 0 _ rfl
  have m1 := cc 1 _ rfl
  have m2 := cc 2 _ rfl
  have m3 := cc 3 _ rfl
  have m4 := cc 4 _ rfl
  rw [Nat.zero_add] at m0 m1 m2 m3 m4
  clear cc h hi
  unfold Ins.agg
  go_enter Tryz.func79, Tryz.ntmps79
  go_upto_region 2 with fail
  rw [← hW0]
  clear hW0
  cases hk : knownB i.op inner with
  | false =>
    rw [hk] at HK
    clear HA HJ HS HR HL HT HU HC
    go_wp2_with (go_at_call 110; (with_reducible refine (HK.out _).mono ?_); rintro e w1 ⟨rfl, rfl⟩)
    go_ret
    exact ⟨by rw [← HRS.out, hk]; rfl, HF.out⟩
  | true =>
    rw [hk] at HK HRS
    clear hk
    have q24 : ((i.op : Int) == 24) = (i.op == 24) := beq_nat i.op 24
    go_upto_region 4 with (go_at_call 110; (with_reducible refine (HK.out _).mono ?_); rintro e w1 ⟨rfl, rfl⟩)
    clear HK
    go_cut [6] from 20 to 29 (fun s wx => s = .bool (writesB i.op) ∧ W0 = wx)
    case first =>
     as_aux_lemma =>
      have HX : Hid ((arithB i.op || i.op == 24 || loadB i.op) = writesB i.op) := Lib.hid rfl
      clear HJ HS HR HT HU HC m1 m2 m3 m4 HRS
      generalize (i.op == 24) = b1 at *
      generalize arithB i.op = a at *
      generalize loadB i.op = l at *
      go_wp2_with (first
        | (go_at_call 111; (with_reducible refine (HA.out _).mono ?_); rintro e w1 ⟨rfl, rfl⟩)
        | (go_at_call 112; (with_reducible refine (HL.out _).mono ?_); rintro e w1 ⟨rfl, rfl⟩))
      all_goals clear q24
      all_goals subst_vars
      all_goals go_meet
      all_goals exact ⟨by first | rfl | (rw [← HX.out]; rfl), rfl⟩
    case rest =>
      obtain ⟨rfl, rfl⟩ := hcut
      go_upto_region 5 with fail
      go_cut [45] from 30 to 44 (fun s wx => s = .bool (c22B i) ∧ W0 = wx)
      case first =>
       as_aux_lemma =>
        have q1 : decide ((i.dst : Int) > 10) = decide (10 < i.dst) := gt_nat i.dst 10
        have q2 : decide ((i.src : Int) > 10) = decide (10 < i.src) := gt_nat i.src 10
        have q3 : ((i.dst : Int) == 10) = (i.dst == 10) := beq_nat i.dst 10
        have HX : Hid ((decide (10 < i.dst) || decide (10 < i.src) || (writesB i.op && i.dst == 10)) = c22B i) := Lib.hid rfl
        clear HRS
        generalize decide (10 < i.dst) = b1 at *
        generalize decide (10 < i.src) = b2 at *
        generalize (i.dst == 10) = b3 at *
        generalize writesB i.op = wr at *
        clear q24
        go_wp2_with fail
        all_goals clear q1 q2 q3
        all_goals subst_vars
        all_goals go_meet
        all_goals exact ⟨by first | rfl | (rw [← HX.out]; rfl), rfl⟩
      case rest =>
        obtain ⟨rfl, rfl⟩ := hcut
        cases h22 : c22B i with
        | true =>
          go_wp2_with fail
          go_ret
          exact ⟨by rw [← HRS.out, h22]; rfl, HF.out⟩
        | false =>
          rw [h22] at HRS
          clear h22
          go_upto_region 7 with fail
          go_cut [7] from 46 to 52 (fun s wx => s = .bool (condB i.op) ∧ W0 = wx)
          case first =>
           as_aux_lemma =>
            have hx : (jumpB i.op && !specB i.op) = condB i.op := rfl
            clear m0 m1 m2 m3 m4 q24
            have HX := Lib.hid hx
            clear hx
            clear HRS HF HA HR HL HT HU HC
            generalize jumpB i.op = b1 at *
            generalize specB i.op = b2 at *
            go_wp2_with (first | (go_at_call 82; (with_reducible refine (HJ.out _).mono ?_); rintro e w1 ⟨rfl, rfl⟩) | (go_at_call 113; (with_reducible refine (HS.out _).mono ?_); rintro e w1 ⟨rfl, rfl⟩))
            all_goals subst_vars
            all_goals go_meet
            all_goals exact ⟨by first | rfl | (rw [← HX.out]; rfl) | (rw [← HX.out]; congr 1; simp only [*, decide_true, decide_false, Bool.not_false, Bool.not_true, Bool.true_and, Bool.false_and, Bool.and_true, Bool.and_false, Bool.or_true, Bool.true_or, Bool.or_false, Bool.false_or]; done) | (have e9 : decide ((31 : Int) < i.imm) = false := (by rw [decide_eq_false_iff_not]; omega); rw [← HX.out]; congr 1; simp only [*, decide_true, decide_false, Bool.not_false, Bool.not_true, Bool.true_and, Bool.false_and, Bool.and_true, Bool.and_false, Bool.or_true, Bool.true_or, Bool.or_false, Bool.false_or]; done) | (have e9 : decide ((63 : Int) < i.imm) = false := (by rw [decide_eq_false_iff_not]; omega); rw [← HX.out]; congr 1; simp only [*, decide_true, decide_false, Bool.not_false, Bool.not_true, Bool.true_and, Bool.false_and, Bool.and_true, Bool.and_false, Bool.or_true, Bool.true_or, Bool.or_false, Bool.false_or]; done), rfl⟩
          case rest =>
            obtain ⟨rfl, rfl⟩ := hcut
            go_upto_region 8 with fail
            go_cut [8] from 53 to 64 (fun s wx => s = .bool (dstB i.op) ∧ W0 = wx)
            case first =>
             as_aux_lemma =>
              have hx : (writesB i.op || condB i.op || storeB i.op || storeRB i.op) = dstB i.op := rfl
              clear m0 m1 m2 m3 m4 q24
              have HX := Lib.hid hx
              clear hx
              clear HRS HF HA HJ HS HR HL HC
              generalize writesB i.op = b1 at *
              generalize condB i.op = b2 at *
              generalize storeB i.op = b3 at *
              generalize storeRB i.op = b4 at *
              go_wp2_with (first | (go_at_call 114; (with_reducible refine (HT.out _).mono ?_); rintro e w1 ⟨rfl, rfl⟩) | (go_at_call 115; (with_reducible refine (HU.out _).mono ?_); rintro e w1 ⟨rfl, rfl⟩))
              all_goals subst_vars
              all_goals go_meet
              all_goals exact ⟨by first | rfl | (rw [← HX.out]; rfl) | (rw [← HX.out]; congr 1; simp only [*, decide_true, decide_false, Bool.not_false, Bool.not_true, Bool.true_and, Bool.false_and, Bool.and_true, Bool.and_false, Bool.or_true, Bool.true_or, Bool.or_false, Bool.false_or]; done) | (have e9 : decide ((31 : Int) < i.imm) = false := (by rw [decide_eq_false_iff_not]; omega); rw [← HX.out]; congr 1; simp only [*, decide_true, decide_false, Bool.not_false, Bool.not_true, Bool.true_and, Bool.false_and, Bool.and_true, Bool.and_false, Bool.or_true, Bool.true_or, Bool.or_false, Bool.false_or]; done) | (have e9 : decide ((63 : Int) < i.imm) = false := (by rw [decide_eq_false_iff_not]; omega); rw [← HX.out]; congr 1; simp only [*, decide_true, decide_false, Bool.not_false, Bool.not_true, Bool.true_and, Bool.false_and, Bool.and_true, Bool.and_false, Bool.or_true, Bool.true_or, Bool.or_false, Bool.false_or]; done), rfl⟩
            case rest =>
              obtain ⟨rfl, rfl⟩ := hcut
              go_upto_region 9 with fail
              go_cut [9] from 65 to 85 (fun s wx => s = .bool (srcB i.op) ∧ W0 = wx)
              case first =>
               as_aux_lemma =>
                have hx : (((arithB i.op || condB i.op) && regB i.op) || i.op == 24 || loadB i.op || storeRB i.op) = srcB i.op := rfl
                clear m0 m1 m2 m3 m4
                have HX := Lib.hid hx
                clear hx
                clear HRS HF HJ HS HT HC
                generalize (i.op == 24) = b0 at *
                generalize arithB i.op = b1 at *
                generalize condB i.op = b2 at *
                generalize regB i.op = b3 at *
                generalize loadB i.op = b4 at *
                generalize storeRB i.op = b5 at *
                go_wp2_with (first | (go_at_call 111; (with_reducible refine (HA.out _).mono ?_); rintro e w1 ⟨rfl, rfl⟩) | (go_at_call 116; (with_reducible refine (HR.out _).mono ?_); rintro e w1 ⟨rfl, rfl⟩) | (go_at_call 112; (with_reducible refine (HL.out _).mono ?_); rintro e w1 ⟨rfl, rfl⟩) | (go_at_call 115; (with_reducible refine (HU.out _).mono ?_); rintro e w1 ⟨rfl, rfl⟩))
                all_goals clear q24
                all_goals subst_vars
                all_goals go_meet
                all_goals exact ⟨by first | rfl | (rw [← HX.out]; rfl) | (rw [← HX.out]; congr 1; simp only [*, decide_true, decide_false, Bool.not_false, Bool.not_true, Bool.true_and, Bool.false_and, Bool.and_true, Bool.and_false, Bool.or_true, Bool.true_or, Bool.or_false, Bool.false_or]; done) | (have e9 : decide ((31 : Int) < i.imm) = false := (by rw [decide_eq_false_iff_not]; omega); rw [← HX.out]; congr 1; simp only [*, decide_true, decide_false, Bool.not_false, Bool.not_true, Bool.true_and, Bool.false_and, Bool.and_true, Bool.and_false, Bool.or_true, Bool.true_or, Bool.or_false, Bool.false_or]; done) | (have e9 : decide ((63 : Int) < i.imm) = false := (by rw [decide_eq_false_iff_not]; omega); rw [← HX.out]; congr 1; simp only [*, decide_true, decide_false, Bool.not_false, Bool.not_true, Bool.true_and, Bool.false_and, Bool.and_true, Bool.and_false, Bool.or_true, Bool.true_or, Bool.or_false, Bool.false_or]; done), rfl⟩
              case rest =>
                obtain ⟨rfl, rfl⟩ := hcut
                go_upto_region 10 with fail
                go_cut [10] from 86 to 107 (fun s wx => s = .bool (offB i.op) ∧ W0 = wx)
                case first =>
                 as_aux_lemma =>
                  have q0 : ((codeN i.op : Int) == 0) = (codeN i.op == 0) := beq_nat (codeN i.op) 0
                  have hx : (condB i.op || (specB i.op && codeN i.op == 0) || loadB i.op || storeB i.op || storeRB i.op) = offB i.op := rfl
                  clear m0 m1 m2 m3 m4 q24
                  have HX := Lib.hid hx
                  clear hx
                  clear HRS HF HA HJ HR
                  generalize (codeN i.op == 0) = b0 at *
                  generalize condB i.op = b1 at *
                  generalize specB i.op = b2 at *
                  generalize loadB i.op = b3 at *
                  generalize storeB i.op = b4 at *
                  generalize storeRB i.op = b5 at *
                  generalize codeN i.op = kk at *
                  go_wp2_with (first | (go_at_call 113; (with_reducible refine (HS.out _).mono ?_); rintro e w1 ⟨rfl, rfl⟩) | (go_at_call 83; (with_reducible refine (HC.out _).mono ?_); rintro e w1 ⟨rfl, rfl⟩) | (go_at_call 112; (with_reducible refine (HL.out _).mono ?_); rintro e w1 ⟨rfl, rfl⟩) | (go_at_call 114; (with_reducible refine (HT.out _).mono ?_); rintro e w1 ⟨rfl, rfl⟩) | (go_at_call 115; (with_reducible refine (HU.out _).mono ?_); rintro e w1 ⟨rfl, rfl⟩))
                  all_goals clear q0
                  all_goals subst_vars
                  all_goals go_meet
                  all_goals exact ⟨by first | rfl | (rw [← HX.out]; rfl) | (rw [← HX.out]; congr 1; simp only [*, decide_true, decide_false, Bool.not_false, Bool.not_true, Bool.true_and, Bool.false_and, Bool.and_true, Bool.and_false, Bool.or_true, Bool.true_or, Bool.or_false, Bool.false_or]; done) | (have e9 : decide ((31 : Int) < i.imm) = false := (by rw [decide_eq_false_iff_not]; omega); rw [← HX.out]; congr 1; simp only [*, decide_true, decide_false, Bool.not_false, Bool.not_true, Bool.true_and, Bool.false_and, Bool.and_true, Bool.and_false, Bool.or_true, Bool.true_or, Bool.or_false, Bool.false_or]; done) | (have e9 : decide ((63 : Int) < i.imm) = false := (by rw [decide_eq_false_iff_not]; omega); rw [← HX.out]; congr 1; simp only [*, decide_true, decide_false, Bool.not_false, Bool.not_true, Bool.true_and, Bool.false_and, Bool.and_true, Bool.and_false, Bool.or_true, Bool.true_or, Bool.or_false, Bool.false_or]; done), rfl⟩
                case rest =>
                  obtain ⟨rfl, rfl⟩ := hcut
                  go_upto_region 11 with fail
                  go_cut [11] from 108 to 139 (fun s wx => s = .bool (immB i.op) ∧ W0 = wx)
                  case first =>
                   as_aux_lemma =>
                    have q0 : ((codeN i.op : Int) == 128) = (codeN i.op == 128) := beq_nat (codeN i.op) 128
                    have q1 : ((codeN i.op : Int) != 128) = !(codeN i.op == 128) := by rw [← q0]; rfl
                    have hx : (((((arithB i.op && codeN i.op != 128) || condB i.op) && !regB i.op) || (specB i.op && codeN i.op == 128) || i.op == 24 || storeB i.op)) = immB i.op := rfl
                    rw [show (codeN i.op != 128) = !(codeN i.op == 128) from rfl] at hx
                    clear m0 m1 m2 m3 m4
                    have HX := Lib.hid hx
                    clear hx
                    clear HRS HF HJ HL HU
                    generalize (codeN i.op == 128) = b0 at *
                    generalize (i.op == 24) = b6 at *
                    generalize condB i.op = b1 at *
                    generalize specB i.op = b2 at *
                    generalize arithB i.op = b3 at *
                    generalize storeB i.op = b4 at *
                    generalize regB i.op = b5 at *
                    generalize codeN i.op = kk at *
                    go_wp2_with (first | (go_at_call 111; (with_reducible refine (HA.out _).mono ?_); rintro e w1 ⟨rfl, rfl⟩) | (go_at_call 83; (with_reducible refine (HC.out _).mono ?_); rintro e w1 ⟨rfl, rfl⟩) | (go_at_call 116; (with_reducible refine (HR.out _).mono ?_); rintro e w1 ⟨rfl, rfl⟩) | (go_at_call 113; (with_reducible refine (HS.out _).mono ?_); rintro e w1 ⟨rfl, rfl⟩) | (go_at_call 114; (with_reducible refine (HT.out _).mono ?_); rintro e w1 ⟨rfl, rfl⟩))
                    all_goals clear q0 q1 q24
                    all_goals subst_vars
                    all_goals go_meet
                    all_goals exact ⟨by first | rfl | (rw [← HX.out]; rfl) | (rw [← HX.out]; congr 1; simp only [*, decide_true, decide_false, Bool.not_false, Bool.not_true, Bool.true_and, Bool.false_and, Bool.and_true, Bool.and_false, Bool.or_true, Bool.true_or, Bool.or_false, Bool.false_or]; done) | (have e9 : decide ((31 : Int) < i.imm) = false := (by rw [decide_eq_false_iff_not]; omega); rw [← HX.out]; congr 1; simp only [*, decide_true, decide_false, Bool.not_false, Bool.not_true, Bool.true_and, Bool.false_and, Bool.and_true, Bool.and_false, Bool.or_true, Bool.true_or, Bool.or_false, Bool.false_or]; done) | (have e9 : decide ((63 : Int) < i.imm) = false := (by rw [decide_eq_false_iff_not]; omega); rw [← HX.out]; congr 1; simp only [*, decide_true, decide_false, Bool.not_false, Bool.not_true, Bool.true_and, Bool.false_and, Bool.and_true, Bool.and_false, Bool.or_true, Bool.true_or, Bool.or_false, Bool.false_or]; done), rfl⟩
                  case rest =>
                    obtain ⟨rfl, rfl⟩ := hcut
                    go_upto_region 12 with fail
                    go_cut [182] from 140 to 181 (fun s wx => s = .bool (c21B i) ∧ W0 = wx)
                    case first =>
                     as_aux_lemma =>
                      have hx : ((!dstB i.op && decide (0 < i.dst)) || (!srcB i.op && decide (0 < i.src)) || (!offB i.op && i.off != 0) || (!immB i.op && i.imm != 0) || (i.op == 24 && decide (1 < i.src))) = c21B i := rfl
                      have e5 : decide ((1 : Int) < (i.src : Int)) = decide (1 < i.src) := gt_nat i.src 1
                      obtain ⟨b3, q4⟩ : ∃ b, (i.off != 0) = b := ⟨_, rfl⟩
                      obtain ⟨b4, q5⟩ : ∃ b, (i.imm != 0) = b := ⟨_, rfl⟩
                      rw [q4, q5] at hx
                      have HX := Lib.hid hx
                      clear hx
                      clear HRS HF HA HJ HS HR HL HT HU HC
                      generalize dstB i.op = d1 at *
                      generalize srcB i.op = d2 at *
                      generalize offB i.op = d3 at *
                      generalize immB i.op = d4 at *
                      generalize (i.op == 24) = d5 at *
                      go_wp2_with fail
                      all_goals clear q4 q5 q24
                      all_goals subst_vars
                      all_goals go_meet
                      all_goals exact ⟨by first | rfl | (rw [← HX.out]; rfl) | (rw [← HX.out]; congr 1; simp only [*, decide_true, decide_false, Bool.not_false, Bool.not_true, Bool.true_and, Bool.false_and, Bool.and_true, Bool.and_false, Bool.or_true, Bool.true_or, Bool.or_false, Bool.false_or]; done) | (have e9 : decide ((31 : Int) < i.imm) = false := (by rw [decide_eq_false_iff_not]; omega); rw [← HX.out]; congr 1; simp only [*, decide_true, decide_false, Bool.not_false, Bool.not_true, Bool.true_and, Bool.false_and, Bool.and_true, Bool.and_false, Bool.or_true, Bool.true_or, Bool.or_false, Bool.false_or]; done) | (have e9 : decide ((63 : Int) < i.imm) = false := (by rw [decide_eq_false_iff_not]; omega); rw [← HX.out]; congr 1; simp only [*, decide_true, decide_false, Bool.not_false, Bool.not_true, Bool.true_and, Bool.false_and, Bool.and_true, Bool.and_false, Bool.or_true, Bool.true_or, Bool.or_false, Bool.false_or]; done), rfl⟩
                    case rest =>
                      obtain ⟨rfl, rfl⟩ := hcut
                      cases h21 : c21B i with
                      | true =>
                        go_wp2_with fail
                        go_ret
                        exact ⟨by rw [← HRS.out, h21]; rfl, HF.out⟩
                      | false =>
                        rw [h21] at HRS
                        clear h21
                        go_upto_region 14 with fail
                        go_cut [187] from 183 to 186 (fun s wx => s = .bool (arithB i.op && immB i.op) ∧ W0 = wx)
                        case first =>
                         as_aux_lemma =>
                          have hx : (arithB i.op && immB i.op) = (arithB i.op && immB i.op) := rfl
                          clear m0 m1 m2 m3 m4 q24
                          have HX := Lib.hid hx
                          clear hx
                          clear HRS HF HJ HS HR HL HT HU HC
                          generalize arithB i.op = b1 at *
                          generalize immB i.op = b2 at *
                          go_wp2_with (first | (go_at_call 111; (with_reducible refine (HA.out _).mono ?_); rintro e w1 ⟨rfl, rfl⟩))
                          all_goals subst_vars
                          all_goals go_meet
                          all_goals exact ⟨by first | rfl | (rw [← HX.out]; rfl) | (rw [← HX.out]; congr 1; simp only [*, decide_true, decide_false, Bool.not_false, Bool.not_true, Bool.true_and, Bool.false_and, Bool.and_true, Bool.and_false, Bool.or_true, Bool.true_or, Bool.or_false, Bool.false_or]; done) | (have e9 : decide ((31 : Int) < i.imm) = false := (by rw [decide_eq_false_iff_not]; omega); rw [← HX.out]; congr 1; simp only [*, decide_true, decide_false, Bool.not_false, Bool.not_true, Bool.true_and, Bool.false_and, Bool.and_true, Bool.and_false, Bool.or_true, Bool.true_or, Bool.or_false, Bool.false_or]; done) | (have e9 : decide ((63 : Int) < i.imm) = false := (by rw [decide_eq_false_iff_not]; omega); rw [← HX.out]; congr 1; simp only [*, decide_true, decide_false, Bool.not_false, Bool.not_true, Bool.true_and, Bool.false_and, Bool.and_true, Bool.and_false, Bool.or_true, Bool.true_or, Bool.or_false, Bool.false_or]; done), rfl⟩
                        case rest =>
                          obtain ⟨rfl, rfl⟩ := hcut
                          cases h23 : (arithB i.op && immB i.op) with
                          | false =>
                            go_wp2_with fail
                            go_ret
                            exact ⟨by rw [← HRS.out, h23]; rfl, HF.out⟩
                          | true =>
                            rw [h23] at HRS
                            clear h23
                            cases h7 : (i.op % 8 == 7) with
                            | false =>
                              have q7 : ((i.op : Int) % 8 == 7) = false := (beq_mod i.op 8 7).trans h7
                              have hm : (if i.op % 8 = 7 then (63 : Int) else 31) = 31 := by simp at h7; simp [h7]
                              go_upto_region 19 with (go_at_call 83; (with_reducible refine (HC.out _).mono ?_); rintro e w1 ⟨rfl, rfl⟩)
                              go_cut [226] from 193 to 225 (fun s wx => s = .bool (c23B i) ∧ W0 = wx)
                              case first =>
                               as_aux_lemma =>
                                have hx : (((codeN i.op == 96 || codeN i.op == 112 || codeN i.op == 192) && (decide (i.imm < 0) || decide ((31 : Int) < i.imm))) || ((codeN i.op == 48 || codeN i.op == 144) && i.imm == 0)) = c23B i := by unfold c23B; rw [hm]
                                clear hm q7 h7 q24 m0 m1 m2 m3
                                have p0 : ((codeN i.op : Int) == 96) = (codeN i.op == 96) := beq_nat (codeN i.op) 96
                                have p1 : ((codeN i.op : Int) == 112) = (codeN i.op == 112) := beq_nat (codeN i.op) 112
                                have p2 : ((codeN i.op : Int) == 192) = (codeN i.op == 192) := beq_nat (codeN i.op) 192
                                have p3 : ((codeN i.op : Int) == 48) = (codeN i.op == 48) := beq_nat (codeN i.op) 48
                                have p4 : ((codeN i.op : Int) == 144) = (codeN i.op == 144) := beq_nat (codeN i.op) 144
                                have p5 : decide (i.imm > (31 : Int)) = decide ((31 : Int) < i.imm) := rfl
                                obtain ⟨b5, p6⟩ : ∃ b, decide (i.imm < 0) = b := ⟨_, rfl⟩
                                obtain ⟨b7, p7⟩ : ∃ b, (i.imm == 0) = b := ⟨_, rfl⟩
                                rw [p6, p7] at hx
                                have HX := Lib.hid hx
                                clear hx
                                clear HRS HF HA HJ HS HR HL HT HU HC
                                generalize (codeN i.op == 96) = b0 at *
                                generalize (codeN i.op == 112) = b1 at *
                                generalize (codeN i.op == 192) = b2 at *
                                generalize (codeN i.op == 48) = b3 at *
                                generalize (codeN i.op == 144) = b4 at *
                                generalize codeN i.op = kk at *
                                go_wp2_with fail
                                all_goals clear p0 p1 p2 p3 p4 p5 p6 p7
                                all_goals subst_vars
                                all_goals go_meet
                                all_goals exact ⟨by first | rfl | (rw [← HX.out]; rfl) | (rw [← HX.out]; congr 1; simp only [*, decide_true, decide_false, Bool.not_false, Bool.not_true, Bool.true_and, Bool.false_and, Bool.and_true, Bool.and_false, Bool.or_true, Bool.true_or, Bool.or_false, Bool.false_or]; done) | (have e9 : decide ((31 : Int) < i.imm) = false := (by rw [decide_eq_false_iff_not]; omega); rw [← HX.out]; congr 1; simp only [*, decide_true, decide_false, Bool.not_false, Bool.not_true, Bool.true_and, Bool.false_and, Bool.and_true, Bool.and_false, Bool.or_true, Bool.true_or, Bool.or_false, Bool.false_or]; done) | (have e9 : decide ((63 : Int) < i.imm) = false := (by rw [decide_eq_false_iff_not]; omega); rw [← HX.out]; congr 1; simp only [*, decide_true, decide_false, Bool.not_false, Bool.not_true, Bool.true_and, Bool.false_and, Bool.and_true, Bool.and_false, Bool.or_true, Bool.true_or, Bool.or_false, Bool.false_or]; done), rfl⟩
                              case rest =>
                                obtain ⟨rfl, rfl⟩ := hcut
                                cases h9 : c23B i with
                                | true =>
                                  go_wp2_with fail
                                  go_ret
                                  exact ⟨by rw [← HRS.out, h9]; rfl, HF.out⟩
                                | false =>
                                  go_wp2_with fail
                                  go_ret
                                  exact ⟨by rw [← HRS.out, h9]; rfl, HF.out⟩
                            | true =>
                              have q7 : ((i.op : Int) % 8 == 7) = true := (beq_mod i.op 8 7).trans h7
                              have hm : (if i.op % 8 = 7 then (63 : Int) else 31) = 63 := by simp at h7; simp [h7]
                              go_upto_region 19 with (go_at_call 83; (with_reducible refine (HC.out _).mono ?_); rintro e w1 ⟨rfl, rfl⟩)
                              go_cut [226] from 193 to 225 (fun s wx => s = .bool (c23B i) ∧ W0 = wx)
                              case first =>
                               as_aux_lemma =>
                                have hx : (((codeN i.op == 96 || codeN i.op == 112 || codeN i.op == 192) && (decide (i.imm < 0) || decide ((63 : Int) < i.imm))) || ((codeN i.op == 48 || codeN i.op == 144) && i.imm == 0)) = c23B i := by unfold c23B; rw [hm]
                                clear hm q7 h7 q24 m0 m1 m2 m3
                                have p0 : ((codeN i.op : Int) == 96) = (codeN i.op == 96) := beq_nat (codeN i.op) 96
                                have p1 : ((codeN i.op : Int) == 112) = (codeN i.op == 112) := beq_nat (codeN i.op) 112
                                have p2 : ((codeN i.op : Int) == 192) = (codeN i.op == 192) := beq_nat (codeN i.op) 192
                                have p3 : ((codeN i.op : Int) == 48) = (codeN i.op == 48) := beq_nat (codeN i.op) 48
                                have p4 : ((codeN i.op : Int) == 144) = (codeN i.op == 144) := beq_nat (codeN i.op) 144
                                have p5 : decide (i.imm > (63 : Int)) = decide ((63 : Int) < i.imm) := rfl
                                obtain ⟨b5, p6⟩ : ∃ b, decide (i.imm < 0) = b := ⟨_, rfl⟩
                                obtain ⟨b7, p7⟩ : ∃ b, (i.imm == 0) = b := ⟨_, rfl⟩
                                rw [p6, p7] at hx
                                have HX := Lib.hid hx
                                clear hx
                                clear HRS HF HA HJ HS HR HL HT HU HC
                                generalize (codeN i.op == 96) = b0 at *
                                generalize (codeN i.op == 112) = b1 at *
                                generalize (codeN i.op == 192) = b2 at *
                                generalize (codeN i.op == 48) = b3 at *
                                generalize (codeN i.op == 144) = b4 at *
                                generalize codeN i.op = kk at *
                                go_wp2_with fail
                                all_goals clear p0 p1 p2 p3 p4 p5 p6 p7
                                all_goals subst_vars
                                all_goals go_meet
                                all_goals exact ⟨by first | rfl | (rw [← HX.out]; rfl) | (rw [← HX.out]; congr 1; simp only [*, decide_true, decide_false, Bool.not_false, Bool.not_true, Bool.true_and, Bool.false_and, Bool.and_true, Bool.and_false, Bool.or_true, Bool.true_or, Bool.or_false, Bool.false_or]; done) | (have e9 : decide ((31 : Int) < i.imm) = false := (by rw [decide_eq_false_iff_not]; omega); rw [← HX.out]; congr 1; simp only [*, decide_true, decide_false, Bool.not_false, Bool.not_true, Bool.true_and, Bool.false_and, Bool.and_true, Bool.and_false, Bool.or_true, Bool.true_or, Bool.or_false, Bool.false_or]; done) | (have e9 : decide ((63 : Int) < i.imm) = false := (by rw [decide_eq_false_iff_not]; omega); rw [← HX.out]; congr 1; simp only [*, decide_true, decide_false, Bool.not_false, Bool.not_true, Bool.true_and, Bool.false_and, Bool.and_true, Bool.and_false, Bool.or_true, Bool.true_or, Bool.or_false, Bool.false_or]; done), rfl⟩
                              case rest =>
                                obtain ⟨rfl, rfl⟩ := hcut
                                cases h9 : c23B i with
                                | true =>
                                  go_wp2_with fail
                                  go_ret
                                  exact ⟨by rw [← HRS.out, h9]; rfl, HF.out⟩
                                | false =>
                                  go_wp2_with fail
                                  go_ret
                                  exact ⟨by rw [← HRS.out, h9]; rfl, HF.out⟩
end Go.Proofs.YtakcdecljfmckaaGreatDoor
