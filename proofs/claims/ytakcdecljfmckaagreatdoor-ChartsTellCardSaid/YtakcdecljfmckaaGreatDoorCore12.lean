/- insns.number. insns.Check. Packages progs and charts: what an instruction is. Slots in memory; a program's text, step by step. Packages progs and charts: the slots at which instructions begin. Rows of bools and ints that a call makes. progs.firsts: the slots at which instructions begin. -/
import Derived.Test.YtakcdecljfmckaaGreatDoorCore11
import Derived.Test.YtakcdecljfmckaaGreatDoorCore3
import Derived.BigQuiet
import Derived.Test.YtakcdecljfmckaaGreatDoorCore10
import Derived.Test.YtakcdecljfmckaaGreatDoorCore4
set_option linter.all false
set_option linter.unusedVariables false
set_option linter.unusedSimpArgs false
namespace Go.Proofs.YtakcdecljfmckaaGreatDoor
open Go.RowKit

def numF (b4 b7 c96 c112 c192 c48 c144 i0 i32 i64 nz : Bool) : Bool :=
  if !b4 && !b7 then true
  else if c96 || c112 || c192 then i0 && (i32 || (i64 && b7))
  else if c48 || c144 then nz
  else true
def numB (i : Ins) : Bool := numF (i.op % 8 == 4) (i.op % 8 == 7) (codeN i.op == 96) (codeN i.op == 112) (codeN i.op == 192) (codeN i.op == 48) (codeN i.op == 144) (decide (0 ≤ i.imm)) (decide (i.imm < 32)) (decide (i.imm < 64)) (i.imm != 0)

set_option maxRecDepth 100000 in
set_option maxHeartbeats 2000000 in
theorem inumber_any (i : Ins) (hi : i.ok) (w : World) : Calls Tryz.prog 108 #[i.agg] w fun e w' => e = .returned (.bool (numB i)) ∧ Fr No w w' := by
  obtain ⟨op, dst, src, off, imm⟩ := i
  have h := hi.op
  simp only at h
  have p1 := and240 op h
  have p7 := and7 op h
  have q0 : ((codeN op : Int) == 96) = (codeN op == 96) := beq_nat (codeN op) 96
  have q1 : ((codeN op : Int) == 112) = (codeN op == 112) := beq_nat (codeN op) 112
  have q2 : ((codeN op : Int) == 192) = (codeN op == 192) := beq_nat (codeN op) 192
  have q3 : ((codeN op : Int) == 48) = (codeN op == 48) := beq_nat (codeN op) 48
  have q4 : ((codeN op : Int) == 144) = (codeN op == 144) := beq_nat (codeN op) 144
  have r4 : ((op : Int) % 8 != 4) = !(op % 8 == 4) := by rw [bne]; exact congrArg _ (beq_mod op 8 4)
  have r7 : ((op : Int) % 8 != 7) = !(op % 8 == 7) := by rw [bne]; exact congrArg _ (beq_mod op 8 7)
  have r7' : ((op : Int) % 8 == 7) = (op % 8 == 7) := beq_mod op 8 7
  unfold numB
  dsimp only
  unfold Ins.agg
  dsimp only
  have s0 : decide (imm ≥ 0) = decide (0 ≤ imm) := rfl
  generalize (codeN op == 96) = c96 at *
  generalize (codeN op == 112) = c112 at *
  generalize (codeN op == 192) = c192 at *
  generalize (codeN op == 48) = c48 at *
  generalize (codeN op == 144) = c144 at *
  generalize (op % 8 == 4) = b4 at *
  generalize (op % 8 == 7) = b7 at *
  obtain ⟨i0, h0⟩ : ∃ b, decide (0 ≤ imm) = b := ⟨_, rfl⟩
  obtain ⟨i32, h32⟩ : ∃ b, decide (imm < 32) = b := ⟨_, rfl⟩
  obtain ⟨i64, h64⟩ : ∃ b, decide (imm < 64) = b := ⟨_, rfl⟩
  obtain ⟨nz, hnz⟩ : ∃ b, (imm != 0) = b := ⟨_, rfl⟩
  rw [h0] at s0 ⊢
  rw [h32, h64, hnz]
  generalize codeN op = c at *
  clear h hi
  cases b4
  all_goals cases b7
  all_goals (try cases i0)
  all_goals go_enter Tryz.func108, Tryz.ntmps108
  all_goals go_wp2_with fail
  all_goals clear p1 p7 q0 q1 q2 q3 q4 r4 r7 r7' s0 h0 h32 h64 hnz
  all_goals subst_vars
  all_goals go_ret
  all_goals exact ⟨by first | rfl | contradiction | (simp [numF]; done) | simp [numF, *], (Fr.refl _ _).alloc _⟩
end Go.Proofs.YtakcdecljfmckaaGreatDoor

namespace Go.Proofs.YtakcdecljfmckaaGreatDoor
open Go.RowKit

def chkF (K g1 g2 W e10 D n1 S n2 O n3 I n4 o24 g3 U : Bool) : Int :=
  if !K then 20
  else if g1 || g2 || (W && e10) then 22
  else if (!D && n1) || (!S && n2) || (!O && n3) || (!I && n4) || (o24 && g3) then 21
  else if I && !U then 23 else 0
theorem chk_eq (i : Ins) (inner : Bool) : checkI i inner = chkF (knownB i.op inner) (decide (10 < i.dst)) (decide (10 < i.src)) (writesB i.op) (i.dst == 10) (dstB i.op) (i.dst != 0) (srcB i.op) (i.src != 0) (offB i.op) (i.off != 0) (immB i.op) (i.imm != 0) (i.op == 24) (decide (1 < i.src)) (numB i) := by
  have e1 : decide (0 < i.dst) = (i.dst != 0) := by rw [Bool.eq_iff_iff]; simp; omega
  have e2 : decide (0 < i.src) = (i.src != 0) := by rw [Bool.eq_iff_iff]; simp; omega
  have e3 : (immB i.op && !numB i) = (arithB i.op && immB i.op && (((codeN i.op == 96 || codeN i.op == 112 || codeN i.op == 192) && (decide (i.imm < 0) || decide ((if i.op % 8 = 7 then 63 else 31) < i.imm))) || ((codeN i.op == 48 || codeN i.op == 144) && i.imm == 0))) := by
    have hA : arithB i.op = (i.op % 8 == 4 || i.op % 8 == 7) := rfl
    unfold numB numF
    by_cases ha : arithB i.op = true
    · have hb : (!(i.op % 8 == 4) && !(i.op % 8 == 7)) = false := by
        rw [hA] at ha
        cases h4 : (i.op % 8 == 4) <;> cases h7 : (i.op % 8 == 7) <;> simp_all
      rw [hb, ha, Bool.true_and]
      simp only [Bool.false_eq_true, if_false]
      congr 1
      by_cases hs : (codeN i.op == 96 || codeN i.op == 112 || codeN i.op == 192) = true
      · rw [if_pos hs, hs]
        have hd : (codeN i.op == 48 || codeN i.op == 144) = false := by
          simp only [Bool.or_eq_true, beq_iff_eq] at hs
          rw [Bool.eq_false_iff]
          simp only [ne_eq, Bool.or_eq_true, beq_iff_eq]
          omega
        rw [hd]
        simp only [Bool.true_and, Bool.false_and, Bool.or_false]
        by_cases h7 : i.op % 8 = 7
        · rw [if_pos h7]
          have : (i.op % 8 == 7) = true := by simpa using h7
          rw [this, Bool.eq_iff_iff]
          simp
          omega
        · rw [if_neg h7]
          have : (i.op % 8 == 7) = false := by simpa using h7
          rw [this, Bool.eq_iff_iff]
          simp
          omega
      · rw [if_neg hs]
        rw [Bool.not_eq_true] at hs
        rw [hs]
        simp only [Bool.false_and, Bool.false_or]
        by_cases hd : (codeN i.op == 48 || codeN i.op == 144) = true
        · rw [if_pos hd, hd, Bool.true_and]
          cases h0 : (i.imm == 0) <;> simp [bne, h0]
        · rw [if_neg hd]
          rw [Bool.not_eq_true] at hd
          rw [hd]
          rfl
    · rw [Bool.not_eq_true] at ha
      have hb : (!(i.op % 8 == 4) && !(i.op % 8 == 7)) = true := by
        rw [hA] at ha
        cases h4 : (i.op % 8 == 4) <;> cases h7 : (i.op % 8 == 7) <;> simp_all
      rw [hb, ha]
      simp
  unfold checkI chkF
  rw [e1, e2, e3]
set_option maxRecDepth 100000 in
set_option maxHeartbeats 4000000 in
theorem icheck_any (i : Ins) (inner : Bool) (hi : i.ok) (w : World) : Calls Tryz.prog 76 #[i.agg, .bool inner] w fun e w' => e = .returned (.int .i64 (checkI i inner)) ∧ Fr No w w' := by
  rw [chk_eq]
  obtain ⟨D, S, O, I, W, hV, hE⟩ := formB5_is i.op hi.op inner
  have HFM : Hid (∀ V, Calls Tryz.prog 107 #[.int .u8 i.op, .bool inner] V fun e w' => e = .returned (.tuple #[.agg #[.bool D, .bool S, .bool O, .bool I, .bool W], .bool (knownB i.op inner)]) ∧ Fr No V w') := fun V => by
    have := form_any i.op hi.op inner V
    rw [← formV_eq, hV] at this
    exact this
  have HNU : Hid (∀ V, Calls Tryz.prog 108 #[i.agg] V fun e w' => e = .returned (.bool (numB i)) ∧ Fr No V w') := fun V => inumber_any i hi V
  clear hV
  cases hK : knownB i.op inner with
  | false =>
    rw [hK] at HFM
    clear hK hE HNU hi
    unfold Ins.agg
    go_enter Tryz.func76, Tryz.ntmps76
    go_wp2_with (go_at_call 107; (with_reducible refine (HFM.out _).mono ?_); rintro e w1 ⟨rfl, hf1⟩; have HF1 := Lib.hid hf1; clear hf1)
    go_ret
    exact ⟨rfl, (((Fr.refl _ _).alloc _).trans HF1.out).alloc _⟩
  | true =>
    rw [hK] at HFM
    obtain ⟨rfl, rfl, rfl, rfl, rfl⟩ := hE hK
    clear hE hK
    have q1 : decide ((i.dst : Int) > 10) = decide (10 < i.dst) := by rw [decide_eq_decide]; omega
    have q2 : decide ((i.src : Int) > 10) = decide (10 < i.src) := by rw [decide_eq_decide]; omega
    have q3 : ((i.dst : Int) == 10) = (i.dst == 10) := beq_nat i.dst 10
    have q4 : ((i.dst : Int) != 0) = (i.dst != 0) := by rw [bne, bne]; exact congrArg _ (beq_nat i.dst 0)
    have q5 : ((i.src : Int) != 0) = (i.src != 0) := by rw [bne, bne]; exact congrArg _ (beq_nat i.src 0)
    have q6 : ((i.op : Int) == 24) = (i.op == 24) := beq_nat i.op 24
    have q7 : decide ((i.src : Int) > 1) = decide (1 < i.src) := by rw [decide_eq_decide]; omega
    unfold Ins.agg at *
    generalize (decide (10 < i.dst)) = g1 at *
    generalize (decide (10 < i.src)) = g2 at *
    generalize (decide (1 < i.src)) = g3 at *
    generalize (i.dst == 10) = e10 at *
    generalize (i.dst != 0) = n1 at *
    generalize (i.src != 0) = n2 at *
    generalize (i.op == 24) = o24 at *
    obtain ⟨n3, h3⟩ : ∃ b, (i.off != 0) = b := ⟨_, rfl⟩
    obtain ⟨n4, h4⟩ : ∃ b, (i.imm != 0) = b := ⟨_, rfl⟩
    rw [h3, h4]
    generalize numB i = U at *
    generalize writesB i.op = W at *
    generalize dstB i.op = D at *
    generalize srcB i.op = S at *
    generalize offB i.op = O at *
    generalize immB i.op = I at *
    clear hi
    go_enter Tryz.func76, Tryz.ntmps76
    go_wp2_with (first
      | (go_at_call 107; (with_reducible refine (HFM.out _).mono ?_); rintro e w1 ⟨rfl, hf1⟩; have HF1 := Lib.hid hf1; obtain ⟨⟨c0, z0⟩, ⟨c1, z1⟩, ⟨c2, z2⟩, ⟨c3, z3⟩, ⟨c4, z4⟩⟩ := own5 hf1; have hz : w.heap.size < w1.heap.size := (by have := hf1.size; simp at this; omega); have hz2 : ¬ w.heap.size = w1.heap.size := (by omega); have hz3 : ¬ w1.heap.size = w.heap.size := (by omega); clear hf1 z0 z1 z2 z3 z4)
      | (go_at_call 108; (with_reducible refine (HNU.out _).mono ?_); rintro e w2 ⟨rfl, hf2⟩; have HF2 := Lib.hid hf2; clear hf2))
    all_goals clear q1 q2 q3 q4 q5 q6 q7 h3 h4
    all_goals subst_vars
    all_goals go_ret
    all_goals exact ⟨by first | rfl | contradiction | (simp [chkF]; done) | simp [chkF, *], by first | exact (((Fr.refl _ _).alloc _).trans HF1.out).alloc _ | exact ((((Fr.refl _ _).alloc _).trans HF1.out).alloc _).trans HF2.out⟩
end Go.Proofs.YtakcdecljfmckaaGreatDoor

namespace Go.Proofs.YtakcdecljfmckaaGreatDoor
open Go.RowKit

theorem class5 (op : Nat) (h : op < 256) : (bits BinOp.and IntKind.u8 (op : Int) 7 == 5) = (op % 8 == 5) := by rw [and7 op h]; exact beq_mod op 8 5
theorem class6 (op : Nat) (h : op < 256) : (bits BinOp.and IntKind.u8 (op : Int) 7 == 6) = (op % 8 == 6) := by rw [and7 op h]; exact beq_mod op 8 6
theorem bne_nat' (a b : Nat) : ((a : Int) != (b : Int)) = (a != b) := by rw [Bool.eq_iff_iff, bne_iff_ne, bne_iff_ne]; omega

set_option maxRecDepth 100000 in
set_option maxHeartbeats 1000000 in
theorem pjumps_any (i : Ins) (h : i.op < 256) (w : World) : Calls Tryz.prog 40 #[i.agg] w fun e w' => e = .returned (.bool (jumpsM i)) ∧ Fr No w w' := by
  have HF := Lib.hid ((Fr.refl No w).alloc (.cells #[.int .u8 i.op, .int .u8 i.dst, .int .u8 i.src, .int .i16 i.off, .int .i32 i.imm] 51))
  have p1 := and240 i.op h
  have p5 := class5 i.op h
  have p6 := class6 i.op h
  have q1 : ((codeN i.op : Int) != 128) = (codeN i.op != 128) := bne_nat' (codeN i.op) 128
  have q2 : ((codeN i.op : Int) != 144) = (codeN i.op != 144) := bne_nat' (codeN i.op) 144
  unfold jumpsM jumpB Ins.agg
  generalize (i.op % 8 == 5) = b5 at *
  generalize (i.op % 8 == 6) = b6 at *
  generalize (codeN i.op != 128) = c1 at *
  generalize (codeN i.op != 144) = c2 at *
  generalize codeN i.op = c at *
  clear h
  cases b5 <;> cases b6 <;> cases c1 <;> cases c2
  all_goals go_enter Tryz.func40, Tryz.ntmps40
  all_goals go_upto_region 1 with fail
  all_goals go_quiet (fail)
  all_goals go_wp2_with fail
  all_goals go_ret
  all_goals exact ⟨rfl, HF.out.drewN _⟩

set_option maxRecDepth 100000 in
set_option maxHeartbeats 1000000 in
theorem pends_any (i : Ins) (h : i.op < 256) (w : World) : Calls Tryz.prog 37 #[i.agg] w fun e w' => e = .returned (.bool (endsM i)) ∧ Fr No w w' := by
  have HF := Lib.hid ((Fr.refl No w).alloc (.cells #[.int .u8 i.op, .int .u8 i.dst, .int .u8 i.src, .int .i16 i.off, .int .i32 i.imm] 51))
  have p1 := and240 i.op h
  have p5 := class5 i.op h
  have p6 := class6 i.op h
  have q2 : ((codeN i.op : Int) == 144) = (codeN i.op == 144) := beq_nat (codeN i.op) 144
  unfold endsM jumpB Ins.agg
  generalize (i.op % 8 == 5) = b5 at *
  generalize (i.op % 8 == 6) = b6 at *
  generalize (codeN i.op == 144) = c2 at *
  generalize codeN i.op = c at *
  clear h
  cases b5 <;> cases b6 <;> cases c2
  all_goals go_enter Tryz.func37, Tryz.ntmps37
  all_goals go_wp2_with fail
  all_goals go_ret
  all_goals exact ⟨rfl, HF.out⟩

set_option maxRecDepth 100000 in
set_option maxHeartbeats 1000000 in
theorem palways_any (i : Ins) (h : i.op < 256) (w : World) : Calls Tryz.prog 38 #[i.agg] w fun e w' => e = .returned (.bool (alwaysM i)) ∧ Fr No w w' := by
  have HF := Lib.hid ((Fr.refl No w).alloc (.cells #[.int .u8 i.op, .int .u8 i.dst, .int .u8 i.src, .int .i16 i.off, .int .i32 i.imm] 51))
  have HJ : Hid (∀ W, Calls Tryz.prog 40 #[i.agg] W fun e w' => e = .returned (.bool (jumpsM i)) ∧ Fr No W w') := fun W => pjumps_any i h W
  have HC0 : Hid (∀ W, Fr No (w.alloc (.cells #[.int .u8 i.op, .int .u8 i.dst, .int .u8 i.src, .int .i16 i.off, .int .i32 i.imm] 51)) W → W.cell? ⟨w.heap.size, 0, none⟩ = some (.int .u8 i.op)) := fun W hf => by
    have := (hf.cells (CellsAt.new w [.int .u8 i.op, .int .u8 i.dst, .int .u8 i.src, .int .i16 i.off, .int .i32 i.imm] 51) id) 0 _ rfl
    exact this
  have p1 := and240 i.op h
  have q2 : ((codeN i.op : Int) == 0) = (codeN i.op == 0) := beq_nat (codeN i.op) 0
  unfold alwaysM
  unfold Ins.agg at *
  generalize jumpsM i = J at *
  generalize (codeN i.op == 0) = c2 at *
  generalize codeN i.op = c at *
  clear h
  cases J <;> cases c2
  all_goals go_enter Tryz.func38, Tryz.ntmps38
  all_goals go_wp2_with (go_at_call 40; (with_reducible refine (HJ.out _).mono ?_); rintro e w1 ⟨rfl, hf⟩; have c0 := HC0.out _ hf)
  all_goals go_ret
  all_goals exact ⟨rfl, HF.out.trans hf⟩

set_option maxRecDepth 100000 in
set_option maxHeartbeats 1000000 in
theorem psize_any (i : Ins) (w : World) : Calls Tryz.prog 39 #[i.agg] w fun e w' => e = .returned (.int .i64 (sizeM i)) ∧ Fr No w w' := by
  have HF := Lib.hid ((Fr.refl No w).alloc (.cells #[.int .u8 i.op, .int .u8 i.dst, .int .u8 i.src, .int .i16 i.off, .int .i32 i.imm] 51))
  have q2 : ((i.op : Int) == 24) = (i.op == 24) := beq_nat i.op 24
  unfold sizeM Ins.agg
  by_cases h24 : i.op = 24
  · rw [if_pos h24]
    rw [beq_iff_eq.2 h24] at q2
    clear h24
    go_enter Tryz.func39, Tryz.ntmps39
    go_wp2_with fail
    go_ret
    exact ⟨rfl, HF.out⟩
  · rw [if_neg h24]
    rw [beq_eq_false_iff_ne.2 h24] at q2
    clear h24
    go_enter Tryz.func39, Tryz.ntmps39
    go_wp2_with fail
    go_ret
    exact ⟨rfl, HF.out⟩

set_option maxRecDepth 100000 in
set_option maxHeartbeats 1000000 in
theorem cleaves_any (i : Ins) (h : i.op < 256) (w : World) : Calls Tryz.prog 78 #[i.agg] w fun e w' => e = .returned (.bool (jumpB i.op && i.op != 133)) ∧ Fr No w w' := by
  have HF := Lib.hid ((Fr.refl No w).alloc (.cells #[.int .u8 i.op, .int .u8 i.dst, .int .u8 i.src, .int .i16 i.off, .int .i32 i.imm] 51))
  have p5 := class5 i.op h
  have p6 := class6 i.op h
  have q1 : ((i.op : Int) != 133) = (i.op != 133) := bne_nat' i.op 133
  unfold jumpB Ins.agg
  generalize (i.op % 8 == 5) = b5 at *
  generalize (i.op % 8 == 6) = b6 at *
  generalize (i.op != 133) = c1 at *
  clear h
  cases b5 <;> cases b6 <;> cases c1
  all_goals go_enter Tryz.func78, Tryz.ntmps78
  all_goals go_wp2_with fail
  all_goals go_ret
  all_goals exact ⟨rfl, HF.out⟩
end Go.Proofs.YtakcdecljfmckaaGreatDoor

namespace Go.Proofs.YtakcdecljfmckaaGreatDoor
open Go.RowKit

theorem iflat_length (l : List Ins) : (iflat l).length = l.length * 5 := by
  induction l with
  | nil => rfl
  | cons x l ih => simp only [iflat, List.flatMap_cons, List.length_append, Ins.cells, List.length_cons, List.length_nil] at *; omega
theorem iflat_get (l : List Ins) (i c : Nat) (hi : i < l.length) (hc : c < 5) : (iflat l)[i * 5 + c]? = some (l[i].cells[c]'(by simpa [Ins.cells] using hc)) := by
  induction l generalizing i with
  | nil => simp at hi
  | cons x l ih =>
    simp only [iflat, List.flatMap_cons]
    cases i with
    | zero =>
      rw [List.getElem?_append_left (by simp [Ins.cells]; omega)]
      simp only [Nat.zero_mul, Nat.zero_add, List.getElem_cons_zero]
      exact List.getElem?_eq_getElem _
    | succ i =>
      rw [List.getElem?_append_right (by simp [Ins.cells]; omega)]
      have := ih i (by simpa using hi)
      simp only [iflat] at this
      rw [show (i + 1) * 5 + c - x.cells.length = i * 5 + c by simp [Ins.cells]; omega, this]
      simp
/-- a program at a slice's value -/
def InsAt (w : World) (v : Value) (l : List Ins) : Prop := (l = [] ∧ ∃ a c, v = .slice a 0 c) ∨ ∃ g off cap, v = .slice (some ⟨g, off, none⟩) l.length cap ∧ CellsAt w g off (iflat l)
theorem InsAt.fr {w w' : World} {v : Value} {l : List Ins} (h : InsAt w v l) (hf : Fr No w w') : InsAt w' v l := by
  rcases h with h | ⟨g, off, cap, rfl, hc⟩
  · exact .inl h
  · exact .inr ⟨g, off, cap, rfl, hf.cells hc id⟩
theorem InsAt.form {w : World} {v : Value} {l : List Ins} (h : InsAt w v l) : ∃ a c, v = .slice a l.length c := by
  rcases h with ⟨rfl, a, c, rfl⟩ | ⟨g, off, cap, rfl, hc⟩
  · exact ⟨a, c, rfl⟩
  · exact ⟨_, _, rfl⟩
theorem ins_cell {w : World} {g off : Nat} {l : List Ins} (h : CellsAt w g off (iflat l)) {k : Nat} {x : Ins} (hx : l[k]? = some x) :
    w.cell? ⟨g, off + k * 5, none⟩ = some (.int .u8 x.op) ∧ w.cell? ⟨g, off + k * 5 + 1, none⟩ = some (.int .u8 x.dst) ∧ w.cell? ⟨g, off + k * 5 + 2, none⟩ = some (.int .u8 x.src) ∧ w.cell? ⟨g, off + k * 5 + 3, none⟩ = some (.int .i16 x.off) ∧ w.cell? ⟨g, off + k * 5 + 4, none⟩ = some (.int .i32 x.imm) := by
  obtain ⟨hk, rfl⟩ := List.getElem?_eq_some_iff.1 hx
  have c0 := h (k * 5 + 0) _ (iflat_get l k 0 hk (by omega))
  have c1 := h (k * 5 + 1) _ (iflat_get l k 1 hk (by omega))
  have c2 := h (k * 5 + 2) _ (iflat_get l k 2 hk (by omega))
  have c3 := h (k * 5 + 3) _ (iflat_get l k 3 hk (by omega))
  have c4 := h (k * 5 + 4) _ (iflat_get l k 4 hk (by omega))
  refine ⟨by simpa [Ins.cells] using c0, ?_, ?_, ?_, ?_⟩
  · rw [show off + k * 5 + 1 = off + (k * 5 + 1) by omega]; simpa [Ins.cells] using c1
  · rw [show off + k * 5 + 2 = off + (k * 5 + 2) by omega]; simpa [Ins.cells] using c2
  · rw [show off + k * 5 + 3 = off + (k * 5 + 3) by omega]; simpa [Ins.cells] using c3
  · rw [show off + k * 5 + 4 = off + (k * 5 + 4) by omega]; simpa [Ins.cells] using c4

/-! ### a text, step by step -/
theorem show_A {l : List Ins} {k : Nat} {i : Ins} {S T : List UInt8} (hT : S ++ showL (l.drop k) = T) (hi : l[k]? = some i) (h1 : (checkI i true == 0) = true) (h2 : (i.op == 24) = false) : (S ++ lineI i ++ [10]) ++ showL (l.drop (k + 1)) = T := by
  obtain ⟨hk, rfl⟩ := List.getElem?_eq_some_iff.1 hi
  rw [← hT, List.drop_eq_getElem_cons hk, showL_cons, h1]
  have : (l[k].op != 24) = true := by rw [bne, h2]; rfl
  rw [this]
  simp
theorem show_B {l : List Ins} {k : Nat} {i j : Ins} {S T : List UInt8} (hT : S ++ showL (l.drop k) = T) (hi : l[k]? = some i) (hj : l[k + 1]? = some j) (h1 : (checkI i true == 0) = true) (h2 : (i.op == 24) = true) (h3 : halfB j (i.src == 1) = true) : (S ++ pairI i j ++ [10]) ++ showL (l.drop (k + 1 + 1)) = T := by
  obtain ⟨hk, rfl⟩ := List.getElem?_eq_some_iff.1 hi
  obtain ⟨hk2, rfl⟩ := List.getElem?_eq_some_iff.1 hj
  rw [← hT, List.drop_eq_getElem_cons hk, showL_cons, List.drop_eq_getElem_cons hk2, h1]
  have : (l[k].op != 24) = false := by rw [bne, h2]; rfl
  rw [this]
  simp [h3]
theorem show_C {l : List Ins} {k : Nat} {i : Ins} {S T : List UInt8} (hT : S ++ showL (l.drop k) = T) (hi : l[k]? = some i) (h : (checkI i true == 0) = false ∨ ((i.op == 24) = true ∧ ∀ j, l[k + 1]? = some j → halfB j (i.src == 1) = false)) : (S ++ rawI i ++ [10]) ++ showL (l.drop (k + 1)) = T := by
  obtain ⟨hk, rfl⟩ := List.getElem?_eq_some_iff.1 hi
  have hne : (checkI l[k] true == 0 && l[k].op != 24) = false := by
    rcases h with h | ⟨h, _⟩
    · rw [h]; rfl
    · rw [bne, h]; simp
  rw [← hT, List.drop_eq_getElem_cons hk, showL_cons, hne]
  cases hd : l.drop (k + 1) with
  | nil => simp [showL]
  | cons j t =>
    have hj : l[k + 1]? = some j := by
      have := List.getElem?_drop (xs := l) (i := k + 1) (j := 0)
      rw [hd] at this
      simpa using this.symm
    have h2 : (checkI l[k] true == 0 && halfB j (l[k].src == 1)) = false := by
      rcases h with h | ⟨_, h⟩
      · rw [h]; rfl
      · rw [h j hj]; simp
    simp [h2]
theorem show_room {l : List Ins} (hok : ∀ i ∈ l, i.ok) (hn : l.length ≤ 300) {S U : List UInt8} (h : S ++ U = showL l) : (bA S).size ≤ 20000 := by
  have h2 := show_size l hok
  rw [← h, List.length_append] at h2
  rw [bA_size]
  omega
theorem one_room (i : Ins) (hi : i.ok) : ∀ t ∈ toks i.op, (Tok.show i t).length ≤ 40 := by
  have hd := dec_len20 (n := i.dst) (by have := hi.dst; omega)
  have hs := dec_len20 (n := i.src) (by have := hi.src; omega)
  have hm := itoa_len_le (n := i.imm) (m := 19) (by have := hi.imm; omega) (by omega)
  have ho := itoa_len_le (n := i.off) (m := 19) (by have := hi.off; omega) (by omega)
  have hj := sign_len_le (n := i.off) (m := 19) (by have := hi.off; omega) (by omega)
  have hl : ∀ s, Tok.lit s ∈ toks i.op → s.length ≤ 40 := by
    have : ∀ op, op < 256 → (toks op).all (fun t => match t with | .lit s => decide (s.length ≤ 40) | _ => true) = true := by decide +kernel
    intro s h
    have := List.all_eq_true.1 (this i.op hi.op) _ h
    simpa using this
  intro t ht
  cases t with
  | lit s => exact hl s ht
  | rd => show (regN i.dst).length ≤ 40; unfold regN; simp only [List.length_cons]; omega
  | rs => show (regN i.src).length ≤ 40; unfold regN; simp only [List.length_cons]; omega
  | imm => show (itoaN i.imm).length ≤ 40; omega
  | off => show (itoaN i.off).length ≤ 40; omega
  | joff => show (signN i.off).length ≤ 40; omega
theorem toks_few (op : Nat) (h : op < 256) : (toks op).length ≤ 4 := by
  have : ∀ op, op < 256 → decide ((toks op).length ≤ 4) = true := by decide +kernel
  simpa using this op h
theorem sum_le {l : List (List UInt8)} {m : Nat} (h : ∀ w ∈ l, w.length ≤ m) : (l.map (fun w => w.length + 1)).sum ≤ l.length * (m + 1) := by
  induction l with
  | nil => simp
  | cons x l ih =>
    have h1 := h x (by simp)
    have h2 := ih (fun w hw => h w (List.mem_cons_of_mem _ hw))
    simp only [List.map_cons, List.sum_cons, List.length_cons]
    rw [Nat.add_mul]
    omega
theorem line_room (i : Ins) (hi : i.ok) : (bA (lineI i)).size ≤ 1000 := by
  rw [bA_size]
  have h1 := join_len ((toks i.op).map (Tok.show i))
  have h2 := sum_le (l := (toks i.op).map (Tok.show i)) (m := 40) (by
    intro w hw
    obtain ⟨t, ht, rfl⟩ := List.mem_map.1 hw
    exact one_room i hi t ht)
  have h3 := toks_few i.op hi.op
  rw [List.length_map] at h2
  have : (toks i.op).length * (40 + 1) ≤ 4 * 41 := Nat.mul_le_mul_right _ h3
  unfold lineI
  omega
end Go.Proofs.YtakcdecljfmckaaGreatDoor

namespace Go.Proofs.YtakcdecljfmckaaGreatDoor
open Go.RowKit

theorem insAt_ok {l : List Ins} {pc : Nat} (h : pc < l.length) : insAt l pc = l[pc] := by
  unfold insAt
  rw [List.getD_eq_getElem?_getD, List.getElem?_eq_getElem h]
  rfl
/-- an instruction's cells -/
theorem ins_cells {w : World} {g off : Nat} {l : List Ins} (hc : CellsAt w g off (iflat l)) {pc : Nat} (h : pc < l.length) :
    w.cell? ⟨g, off + pc * 5, none⟩ = some (.int .u8 (insAt l pc).op) ∧ w.cell? ⟨g, off + pc * 5 + 1, none⟩ = some (.int .u8 (insAt l pc).dst) ∧ w.cell? ⟨g, off + pc * 5 + 2, none⟩ = some (.int .u8 (insAt l pc).src) ∧ w.cell? ⟨g, off + pc * 5 + 3, none⟩ = some (.int .i16 (insAt l pc).off) ∧ w.cell? ⟨g, off + pc * 5 + 4, none⟩ = some (.int .i32 (insAt l pc).imm) := by
  have k := fun c (hc5 : c < 5) => hc (pc * 5 + c) _ (iflat_get l pc c h hc5)
  rw [insAt_ok h]
  exact ⟨k 0 (by decide), by have := k 1 (by decide); rwa [← Nat.add_assoc] at this, by have := k 2 (by decide); rwa [← Nat.add_assoc] at this, by have := k 3 (by decide); rwa [← Nat.add_assoc] at this, by have := k 4 (by decide); rwa [← Nat.add_assoc] at this⟩

set_option maxRecDepth 100000 in
set_option maxHeartbeats 1000000 in
theorem cbehind_any (l : List Ins) (v : Value) (pc : Nat) (w : World) (hv : InsAt w v l) (hpc : pc < l.length) (hl : l.length ≤ 1000000) : Calls Tryz.prog 58 #[v, .int .i64 pc] w fun e w' => e = .returned (.int .i64 (pc + sizeM (insAt l pc) : Nat)) ∧ Fr No w w' := by
  rcases hv with ⟨rfl, _⟩ | ⟨g, off, cap, rfl, hc⟩
  · exact absurd hpc (Nat.not_lt_zero _)
  obtain ⟨c0, -⟩ := ins_cells hc hpc
  have q1 : (((insAt l pc).op : Int) == 24) = ((insAt l pc).op == 24) := beq_nat _ 24
  have p1 : (pc : Int) < (l.length : Int) := by omega
  have p2 : (0 : Int) ≤ (pc : Int) := by omega
  have w1 : wrap64 ((pc : Int) + 1) = ((pc + 1 : Nat) : Int) := by rw [IntWalk.wrap64_in _ (by omega)]; omega
  have w2 : wrap64 ((pc : Int) + 2) = ((pc + 2 : Nat) : Int) := by rw [IntWalk.wrap64_in _ (by omega)]; omega
  unfold sizeM
  by_cases h24 : (insAt l pc).op = 24
  · rw [if_pos h24]
    rw [beq_iff_eq.2 h24] at q1
    clear h24 hc hl
    generalize (insAt l pc).op = o at *
    generalize l.length = n at *
    go_enter Tryz.func58, Tryz.ntmps58
    go_wp2_with fail
    go_ret
    exact ⟨congrArg (fun z => Ending.returned (Value.int .i64 z)) w2, Fr.refl _ _⟩
  · rw [if_neg h24]
    rw [beq_eq_false_iff_ne.2 h24] at q1
    clear h24 hc hl
    generalize (insAt l pc).op = o at *
    generalize l.length = n at *
    go_enter Tryz.func58, Tryz.ntmps58
    go_wp2_with fail
    go_ret
    exact ⟨congrArg (fun z => Ending.returned (Value.int .i64 z)) w1, Fr.refl _ _⟩
end Go.Proofs.YtakcdecljfmckaaGreatDoor

namespace Go.Proofs.YtakcdecljfmckaaGreatDoor
open Go.RowKit

theorem Tryz.infoCh_bool : (Tryz.prog.info? 4).map (fun i => (i.zero, i.size, i.bytes)) = some (some (.bool false), 1, 1) := by kernel_rfl
theorem make_bools (n : Nat) (hn : n ≤ 1000000) (w : World) : (Instr.makeSlice 87 (.int .i64 n) (.int .i64 n)).run Tryz.prog w = .ok (.slice (some ⟨w.heap.size, 0, none⟩) n n) (w.alloc (.cells (List.replicate n (.bool false)).toArray 4)) := by
  obtain ⟨i0, hi, hz0, hz1, hz2⟩ := info_parts Tryz.infoCh_bool
  have h := run_make (P := Tryz.prog) w 87 4 i0 (.bool false) Tryz.underlying87 hi hz0 .i64 .i64 n n (by omega) (by omega) (by rw [hz2]; omega) (by omega)
  rw [h, hz1]
  clear h hn
  simp only [Int.toNat_natCast, Nat.mul_one]
  have e : ∀ A B : Array Value, A = B → (Result.ok (Value.slice (some ⟨w.heap.size, 0, none⟩) n n) (w.alloc (.cells A 4)) : Result Value) = .ok (.slice (some ⟨w.heap.size, 0, none⟩) n n) (w.alloc (.cells B 4)) := fun A B h => by rw [h]
  refine e _ _ ?_
  apply Array.ext'
  simp [madeCells, Value.cells, Nat.mod_one]
  apply List.ext_getElem?
  intro j
  simp only [List.getElem?_replicate]
  by_cases hj : j < n <;> simp [hj]
/-- a row of bools: which of them are true -/
def BoolsAt (w : World) (g n : Nat) (f : Nat → Bool) : Prop := ∀ k, k < n → w.cell? ⟨g, k, none⟩ = some (.bool (f k)) ∧ w.frozen? ⟨g, k, none⟩ = false
theorem BoolsAt.new (w : World) (n : Nat) (t : TypeId) : BoolsAt (w.alloc (.cells (List.replicate n (.bool false)).toArray t)) w.heap.size n (fun _ => false) := fun k hk => by
  have := CellsAt.new w (List.replicate n (.bool false)) t k (.bool false) (by rw [List.getElem?_replicate, if_pos hk])
  rw [Nat.zero_add] at this
  exact ⟨this, World.frozen?_alloc_new _ _ _ _⟩
theorem BoolsAt.fr {w w' : World} {g n : Nat} {f : Nat → Bool} (h : BoolsAt w g n f) (hf : Fr No w w') : BoolsAt w' g n f := fun k hk => by
  obtain ⟨h1, h2⟩ := h k hk
  have hlt : g < w.heap.size := World.block_lt_of_cell? w _ h1
  refine ⟨hf.cell h1 id, ?_⟩
  unfold World.frozen? at h2 ⊢
  rw [hf.block g hlt id]
  exact h2
theorem BoolsAt.set {w : World} {g n : Nat} {f : Nat → Bool} (h : BoolsAt w g n f) {k : Nat} (hk : k < n) (t : Bool) : BoolsAt (w.setCell ⟨g, k, none⟩ (.bool t)) g n (fun j => if j = k then t else f j) := fun j hj => by
  obtain ⟨h1, h2⟩ := h j hj
  obtain ⟨h3, h4⟩ := h k hk
  refine ⟨?_, by simpa using h2⟩
  show _ = some (Value.bool (if j = k then t else f j))
  by_cases e : j = k
  · subst e
    rw [if_pos rfl]
    first | exact World.cell?_setCell_same _ _ _ h1 | exact World.cell?_setCell_same _ _ h1 | exact World.cell?_setCell_same (h := h1) ..
  · rw [if_neg e]
    have hne : (⟨g, k, none⟩ : Addr) ≠ ⟨g, j, none⟩ := by intro hc; injection hc with _ hc _; exact e hc.symm
    have := World.cell?_setCell_other (w := w) (v := Value.bool t) (h := hne)
    rw [this]
    exact h1
end Go.Proofs.YtakcdecljfmckaaGreatDoor

namespace Go.Proofs.YtakcdecljfmckaaGreatDoor
open Go.RowKit

theorem firsts_in {l : List Ins} {fuel pc : Nat} (h : pc < l.length) : firstsM l (fuel + 1) pc = pc :: firstsM l fuel (pc + sizeM (insAt l pc)) := by
  rw [firstsM, if_pos h]
theorem firsts_out {l : List Ins} {pc : Nat} (h : l.length ≤ pc) : ∀ fuel, firstsM l fuel pc = []
  | 0 => rfl
  | fuel + 1 => by rw [firstsM, if_neg (by omega)]
theorem sizeM_pos (i : Ins) : 1 ≤ sizeM i ∧ sizeM i ≤ 2 := by unfold sizeM; split <;> omega
/-- a row of bools that stands for a list of numbers -/
def MarksAt (w : World) (g n : Nat) (L : List Nat) : Prop := BoolsAt w g n (fun k => L.contains k)
theorem MarksAt.add {w : World} {g n : Nat} {L : List Nat} (h : MarksAt w g n L) {k : Nat} (hk : k < n) : MarksAt (w.setCell ⟨g, k, none⟩ (.bool true)) g n (L ++ [k]) := by
  have := BoolsAt.set h hk true
  refine fun j hj => ?_
  obtain ⟨h1, h2⟩ := this j hj
  refine ⟨?_, h2⟩
  rw [h1]
  have e : (if j = k then true else L.contains j) = (L ++ [k]).contains j := by
    by_cases e : j = k
    · subst e; simp
    · rw [if_neg e]; simp [e]
  exact congrArg (fun b => some (Value.bool b)) e

set_option maxRecDepth 100000 in
set_option maxHeartbeats 1000000 in
theorem firsts_any (l : List Ins) (v : Value) (w : World) (hv : InsAt w v l) (hok : ∀ i ∈ l, i.ok) (hl : l.length ≤ 100000) (h0 : 0 < l.length) :
    Calls Tryz.prog 51 #[v] w fun e w' => ∃ g, e = .returned (.slice (some ⟨g, 0, none⟩) l.length l.length) ∧ w.heap.size ≤ g ∧ g < w'.heap.size ∧ MarksAt w' g l.length (starts l) ∧ Fr No w w' := by
  rcases hv with ⟨rfl, _⟩ | ⟨g, off, cap, rfl, hc⟩
  · exact absurd h0 (Nat.not_lt_zero _)
  have HC := Lib.hid hc
  have HS : Hid (∀ (i : Ins) W, Calls Tryz.prog 39 #[i.agg] W fun e w' => e = .returned (.int .i64 (sizeM i)) ∧ Fr No W w') := fun i W => psize_any i W
  have hmk := make_bools l.length (by omega)
  obtain ⟨n, hn⟩ : ∃ n, l.length = n := ⟨_, rfl⟩
  have HN := Lib.hid hn
  have HZ0 : Hid (0 < n) := hn ▸ h0
  rw [hn] at hmk hl h0 ⊢
  clear hc hn hok
  go_enter Tryz.func51, Tryz.ntmps51
  go_wp2_with fail
  have eR : (Array.replicate n (Value.bool false)) = (List.replicate n (Value.bool false)).toArray := by simp
  have HF0 : Hid (Fr No w (w.alloc (.cells (Array.replicate n (.bool false)) 4))) := (Fr.refl _ _).alloc _
  have HB0 : Hid (MarksAt (w.alloc (.cells (Array.replicate n (.bool false)) 4)) w.heap.size n []) := by rw [eR]; exact BoolsAt.new w n _
  have HG0 : Hid (w.heap.size < (w.alloc (.cells (Array.replicate n (.bool false)) 4)).heap.size) := by show _ < (w.heap.push _).size; rw [Array.size_push]; exact Lib.hid (Nat.lt_succ_self _)
  have HLO : Hid (∀ W b, w.heap.size ≤ b → Fr No w W → ∀ o x, Fr No w (W.setCell ⟨b, o, none⟩ x)) := fun W b hb hf o x => (hf.any.setCell (p := ⟨b, o, none⟩) (.inr hb) x : Fr (From w) w _).ours
  clear hmk eR
  generalize w.alloc (.cells (Array.replicate n (.bool false)) 4) = W0 at *
  obtain ⟨g0, hg0⟩ : ∃ g0, w.heap.size = g0 := ⟨_, rfl⟩
  have HGE : Hid (w.heap.size ≤ g0) := Nat.le_of_eq hg0
  rw [hg0] at HB0 HG0 ⊢
  clear hg0
  go_loopw [4] (fun i wr => ∃ pc fuel : Nat, ∃ done : List Nat, i = .int .i64 pc ∧ pc ≤ n + 1 ∧ Hid (n ≤ pc + fuel) ∧ Hid (starts l = done ++ firstsM l fuel pc) ∧ Hid (MarksAt wr g0 n done) ∧ Hid (Fr No w wr)) (fun i _ => n + 1 - (intOf i).toNat)
  case atStart => exact ⟨0, n, [], rfl, by omega, Lib.hid (by omega), Lib.hid (by unfold starts; rw [HN.out]; rfl), HB0.out, HF0.out⟩
  case round =>
    obtain ⟨pc, fuel, done, rfl, hpc, HFU, HST, HM, HF⟩ := hrel
    by_cases hlt : pc < n
    · have p1 : (pc : Int) < (n : Int) := by omega
      have p2 : (0 : Int) ≤ (pc : Int) := by omega
      have HLT := Lib.hid hlt
      obtain ⟨b1, fz⟩ := HM.out pc hlt
      go_upto_region 4 with fail
      obtain ⟨W1, hW1⟩ : ∃ W1, W1 = wr.setCell ⟨g0, pc, none⟩ (.bool true) := ⟨_, rfl⟩
      have HM1 : Hid (MarksAt W1 g0 n (done ++ [pc])) := by rw [hW1]; exact HM.out.add hlt
      have HF1 : Hid (Fr No w W1) := by rw [hW1]; exact HLO.out _ _ HGE.out HF.out _ _
      rw [← hW1]
      clear hW1 b1 fz HM HF hlt
      obtain ⟨c0, c1, c2, c3, c4⟩ := ins_cells (HF1.out.cells HC.out id) (pc := pc) (by rw [HN.out]; exact HLT.out)
      have HSZ : Hid (∀ W, Calls Tryz.prog 39 #[.agg #[.int .u8 (insAt l pc).op, .int .u8 (insAt l pc).dst, .int .u8 (insAt l pc).src, .int .i16 (insAt l pc).off, .int .i32 (insAt l pc).imm]] W fun e w' => e = .returned (.int .i64 (sizeM (insAt l pc))) ∧ Fr No W w') := fun W => HS.out (insAt l pc) W
      obtain ⟨z, hz⟩ : ∃ z, sizeM (insAt l pc) = z := ⟨_, rfl⟩
      have z1 : 1 ≤ z ∧ z ≤ 2 := hz ▸ sizeM_pos _
      rw [hz] at HSZ
      have HZ := Lib.hid hz
      have w1 : wrap64 ((pc : Int) + (z : Int)) = ((pc + z : Nat) : Int) := by rw [IntWalk.wrap64_in _ (by omega)]; omega
      clear hz
      generalize (insAt l pc).op = o0 at *
      generalize (insAt l pc).dst = o1 at *
      generalize (insAt l pc).src = o2 at *
      generalize (insAt l pc).off = o3 at *
      generalize (insAt l pc).imm = o4 at *
      go_wp2_with (go_at_call 39; (with_reducible refine (HSZ.out _).mono ?_); rintro e w2 ⟨rfl, hf2⟩)
      go_roundw
      case rel =>
        refine ⟨pc + z, fuel - 1, done ++ [pc], by rw [Int.natCast_add], by have := HLT.out; omega, Lib.hid (by have := HFU.out; omega), ?_, BoolsAt.fr HM1.out hf2, HF1.out.trans hf2⟩
        have hf : ∃ f, fuel = f + 1 := ⟨fuel - 1, by have := HFU.out; have := HLT.out; omega⟩
        obtain ⟨f, rfl⟩ := hf
        have := HST.out
        rw [firsts_in (by rw [HN.out]; exact HLT.out), HZ.out] at this
        rw [this, List.append_assoc]
        exact Lib.hid rfl
      case measure =>
        have := HLT.out
        simp [intOf]
        omega
    · have hge : ¬ (pc : Int) < (n : Int) := by omega
      have HNL := Lib.hid hlt
      clear hlt
      go_wp2_with fail
      go_ret
      have e : starts l = done := by rw [HST.out, firsts_out (by rw [HN.out]; have := HNL.out; omega), List.append_nil]
      exact ⟨g0, rfl, HGE.out, World.block_lt_of_cell? wr _ (HM.out 0 (by have := HZ0.out; omega)).1, e ▸ HM.out, HF.out⟩
end Go.Proofs.YtakcdecljfmckaaGreatDoor
