/- insns.number. insns.Check. -/
import Derived.Test.YthkdokkpiaaljaaGreatDoorCore11
set_option linter.all false
set_option linter.unusedVariables false
set_option linter.unusedSimpArgs false
namespace Go.Proofs.YthkdokkpiaaljaaGreatDoor
open Go.RowKit

def numF (b4 b7 c96 c112 c192 c48 c144 i0 i32 i64 nz : Bool) : Bool :=
  if !b4 && !b7 then true
  else if c96 || c112 || c192 then i0 && (i32 || (i64 && b7))
  else if c48 || c144 then nz
  else true
def numB (i : Ins) : Bool := numF (i.op % 8 == 4) (i.op % 8 == 7) (codeN i.op == 96) (codeN i.op == 112) (codeN i.op == 192) (codeN i.op == 48) (codeN i.op == 144) (decide (0 ≤ i.imm)) (decide (i.imm < 32)) (decide (i.imm < 64)) (i.imm != 0)

set_option maxRecDepth 100000 in
set_option maxHeartbeats 2000000 in
theorem inumber_any (i : Ins) (hi : i.ok) (w : World) : Calls Tryz.prog 47 #[i.agg] w fun e w' => e = .returned (.bool (numB i)) ∧ Fr No w w' := by
  obtain ⟨op, dst, src, off, imm⟩ := i
  have h := hi.op
  simp only at h
  have p1 := and240 op h
  have p7 := and7 op h
  have q0 : ((codeN op : Int) == 96) = (codeN op == 96) := beq_nat (codeN op) 96
  have q1 : ((codeN op : Int) == 112) = (codeN op == 112) := beq_nat (codeN op) 112
  have q2 : ((codeN op : Int) == 192) = (codeN op == 192) := beq_nat (codeN op) 192
  have q3 : ((codeN op : Int) == 48) = (codeN op == 48) := beq_nat (codeN op) 48
  have q4 : ((codeN op : Int) == 144) = (codeN op == 144) := beq_nat (codeN op) 144
  have r4 : ((op : Int) % 8 != 4) = !(op % 8 == 4) := by rw [bne]; exact congrArg _ (beq_mod op 8 4)
  have r7 : ((op : Int) % 8 != 7) = !(op % 8 == 7) := by rw [bne]; exact congrArg _ (beq_mod op 8 7)
  have r7' : ((op : Int) % 8 == 7) = (op % 8 == 7) := beq_mod op 8 7
  unfold numB
  dsimp only
  unfold Ins.agg
  dsimp only
  have s0 : decide (imm ≥ 0) = decide (0 ≤ imm) := rfl
  generalize (codeN op == 96) = c96 at *
  generalize (codeN op == 112) = c112 at *
  generalize (codeN op == 192) = c192 at *
  generalize (codeN op == 48) = c48 at *
  generalize (codeN op == 144) = c144 at *
  generalize (op % 8 == 4) = b4 at *
  generalize (op % 8 == 7) = b7 at *
  obtain ⟨i0, h0⟩ : ∃ b, decide (0 ≤ imm) = b := ⟨_, rfl⟩
  obtain ⟨i32, h32⟩ : ∃ b, decide (imm < 32) = b := ⟨_, rfl⟩
  obtain ⟨i64, h64⟩ : ∃ b, decide (imm < 64) = b := ⟨_, rfl⟩
  obtain ⟨nz, hnz⟩ : ∃ b, (imm != 0) = b := ⟨_, rfl⟩
  rw [h0] at s0 ⊢
  rw [h32, h64, hnz]
  generalize codeN op = c at *
  clear h hi
  cases b4
  all_goals cases b7
  all_goals (try cases i0)
  all_goals go_enter Tryz.func47, Tryz.ntmps47
  all_goals go_wp2_with fail
  all_goals clear p1 p7 q0 q1 q2 q3 q4 r4 r7 r7' s0 h0 h32 h64 hnz
  all_goals subst_vars
  all_goals go_ret
  all_goals exact ⟨by first | rfl | contradiction | (simp [numF]; done) | simp [numF, *], (Fr.refl _ _).alloc _⟩
end Go.Proofs.YthkdokkpiaaljaaGreatDoor

namespace Go.Proofs.YthkdokkpiaaljaaGreatDoor
open Go.RowKit

def chkF (K g1 g2 W e10 D n1 S n2 O n3 I n4 o24 g3 U : Bool) : Int :=
  if !K then 20
  else if g1 || g2 || (W && e10) then 22
  else if (!D && n1) || (!S && n2) || (!O && n3) || (!I && n4) || (o24 && g3) then 21
  else if I && !U then 23 else 0
theorem chk_eq (i : Ins) (inner : Bool) : checkI i inner = chkF (knownB i.op inner) (decide (10 < i.dst)) (decide (10 < i.src)) (writesB i.op) (i.dst == 10) (dstB i.op) (i.dst != 0) (srcB i.op) (i.src != 0) (offB i.op) (i.off != 0) (immB i.op) (i.imm != 0) (i.op == 24) (decide (1 < i.src)) (numB i) := by
  have e1 : decide (0 < i.dst) = (i.dst != 0) := by rw [Bool.eq_iff_iff]; simp; omega
  have e2 : decide (0 < i.src) = (i.src != 0) := by rw [Bool.eq_iff_iff]; simp; omega
  have e3 : (immB i.op && !numB i) = (arithB i.op && immB i.op && (((codeN i.op == 96 || codeN i.op == 112 || codeN i.op == 192) && (decide (i.imm < 0) || decide ((if i.op % 8 = 7 then 63 else 31) < i.imm))) || ((codeN i.op == 48 || codeN i.op == 144) && i.imm == 0))) := by
    have hA : arithB i.op = (i.op % 8 == 4 || i.op % 8 == 7) := rfl
    unfold numB numF
    by_cases ha : arithB i.op = true
    · have hb : (!(i.op % 8 == 4) && !(i.op % 8 == 7)) = false := by
        rw [hA] at ha
        cases h4 : (i.op % 8 == 4) <;> cases h7 : (i.op % 8 == 7) <;> simp_all
      rw [hb, ha, Bool.true_and]
      simp only [Bool.false_eq_true, if_false]
      congr 1
      by_cases hs : (codeN i.op == 96 || codeN i.op == 112 || codeN i.op == 192) = true
      · rw [if_pos hs, hs]
        have hd : (codeN i.op == 48 || codeN i.op == 144) = false := by
          simp only [Bool.or_eq_true, beq_iff_eq] at hs
          rw [Bool.eq_false_iff]
          simp only [ne_eq, Bool.or_eq_true, beq_iff_eq]
          omega
        rw [hd]
        simp only [Bool.true_and, Bool.false_and, Bool.or_false]
        by_cases h7 : i.op % 8 = 7
        · rw [if_pos h7]
          have : (i.op % 8 == 7) = true := by simpa using h7
          rw [this, Bool.eq_iff_iff]
          simp
          omega
        · rw [if_neg h7]
          have : (i.op % 8 == 7) = false := by simpa using h7
          rw [this, Bool.eq_iff_iff]
          simp
          omega
      · rw [if_neg hs]
        rw [Bool.not_eq_true] at hs
        rw [hs]
        simp only [Bool.false_and, Bool.false_or]
        by_cases hd : (codeN i.op == 48 || codeN i.op == 144) = true
        · rw [if_pos hd, hd, Bool.true_and]
          cases h0 : (i.imm == 0) <;> simp [bne, h0]
        · rw [if_neg hd]
          rw [Bool.not_eq_true] at hd
          rw [hd]
          rfl
    · rw [Bool.not_eq_true] at ha
      have hb : (!(i.op % 8 == 4) && !(i.op % 8 == 7)) = true := by
        rw [hA] at ha
        cases h4 : (i.op % 8 == 4) <;> cases h7 : (i.op % 8 == 7) <;> simp_all
      rw [hb, ha]
      simp
  unfold checkI chkF
  rw [e1, e2, e3]
set_option maxRecDepth 100000 in
set_option maxHeartbeats 4000000 in
theorem icheck_any (i : Ins) (inner : Bool) (hi : i.ok) (w : World) : Calls Tryz.prog 22 #[i.agg, .bool inner] w fun e w' => e = .returned (.int .i64 (checkI i inner)) ∧ Fr No w w' := by
  rw [chk_eq]
  obtain ⟨D, S, O, I, W, hV, hE⟩ := formB5_is i.op hi.op inner
  have HFM : Hid (∀ V, Calls Tryz.prog 46 #[.int .u8 i.op, .bool inner] V fun e w' => e = .returned (.tuple #[.agg #[.bool D, .bool S, .bool O, .bool I, .bool W], .bool (knownB i.op inner)]) ∧ Fr No V w') := fun V => by
    have := form_any i.op hi.op inner V
    rw [← formV_eq, hV] at this
    exact this
  have HNU : Hid (∀ V, Calls Tryz.prog 47 #[i.agg] V fun e w' => e = .returned (.bool (numB i)) ∧ Fr No V w') := fun V => inumber_any i hi V
  clear hV
  cases hK : knownB i.op inner with
  | false =>
    rw [hK] at HFM
    clear hK hE HNU hi
    unfold Ins.agg
    go_enter Tryz.func22, Tryz.ntmps22
    go_wp2_with (go_at_call 46; (with_reducible refine (HFM.out _).mono ?_); rintro e w1 ⟨rfl, hf1⟩; have HF1 := Lib.hid hf1; clear hf1)
    go_ret
    exact ⟨rfl, (((Fr.refl _ _).alloc _).trans HF1.out).alloc _⟩
  | true =>
    rw [hK] at HFM
    obtain ⟨rfl, rfl, rfl, rfl, rfl⟩ := hE hK
    clear hE hK
    have q1 : decide ((i.dst : Int) > 10) = decide (10 < i.dst) := by rw [decide_eq_decide]; omega
    have q2 : decide ((i.src : Int) > 10) = decide (10 < i.src) := by rw [decide_eq_decide]; omega
    have q3 : ((i.dst : Int) == 10) = (i.dst == 10) := beq_nat i.dst 10
    have q4 : ((i.dst : Int) != 0) = (i.dst != 0) := by rw [bne, bne]; exact congrArg _ (beq_nat i.dst 0)
    have q5 : ((i.src : Int) != 0) = (i.src != 0) := by rw [bne, bne]; exact congrArg _ (beq_nat i.src 0)
    have q6 : ((i.op : Int) == 24) = (i.op == 24) := beq_nat i.op 24
    have q7 : decide ((i.src : Int) > 1) = decide (1 < i.src) := by rw [decide_eq_decide]; omega
    unfold Ins.agg at *
    generalize (decide (10 < i.dst)) = g1 at *
    generalize (decide (10 < i.src)) = g2 at *
    generalize (decide (1 < i.src)) = g3 at *
    generalize (i.dst == 10) = e10 at *
    generalize (i.dst != 0) = n1 at *
    generalize (i.src != 0) = n2 at *
    generalize (i.op == 24) = o24 at *
    obtain ⟨n3, h3⟩ : ∃ b, (i.off != 0) = b := ⟨_, rfl⟩
    obtain ⟨n4, h4⟩ : ∃ b, (i.imm != 0) = b := ⟨_, rfl⟩
    rw [h3, h4]
    generalize numB i = U at *
    generalize writesB i.op = W at *
    generalize dstB i.op = D at *
    generalize srcB i.op = S at *
    generalize offB i.op = O at *
    generalize immB i.op = I at *
    clear hi
    go_enter Tryz.func22, Tryz.ntmps22
    go_wp2_with (first
      | (go_at_call 46; (with_reducible refine (HFM.out _).mono ?_); rintro e w1 ⟨rfl, hf1⟩; have HF1 := Lib.hid hf1; obtain ⟨⟨c0, z0⟩, ⟨c1, z1⟩, ⟨c2, z2⟩, ⟨c3, z3⟩, ⟨c4, z4⟩⟩ := own5 hf1; have hz : w.heap.size < w1.heap.size := (by have := hf1.size; simp at this; omega); have hz2 : ¬ w.heap.size = w1.heap.size := (by omega); have hz3 : ¬ w1.heap.size = w.heap.size := (by omega); clear hf1 z0 z1 z2 z3 z4)
      | (go_at_call 47; (with_reducible refine (HNU.out _).mono ?_); rintro e w2 ⟨rfl, hf2⟩; have HF2 := Lib.hid hf2; clear hf2))
    all_goals clear q1 q2 q3 q4 q5 q6 q7 h3 h4
    all_goals subst_vars
    all_goals go_ret
    all_goals exact ⟨by first | rfl | contradiction | (simp [chkF]; done) | simp [chkF, *], by first | exact (((Fr.refl _ _).alloc _).trans HF1.out).alloc _ | exact ((((Fr.refl _ _).alloc _).trans HF1.out).alloc _).trans HF2.out⟩
end Go.Proofs.YthkdokkpiaaljaaGreatDoor
