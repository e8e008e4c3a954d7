/- firewallref03.one: the line of a slot. insns: what a jump uses, what an opcode uses. -/
import Derived.Test.YtakcdecljfmckaaGreatDoorCore3
import Derived.Deep.RegionHeld3
import Derived.Deep.CutBlock
import Derived.Laws.NewBlocks
import Derived.Handy
import Derived.BigGuardPart
set_option linter.all false
set_option linter.unusedVariables false
set_option linter.unusedSimpArgs false
namespace Go.Proofs.YtakcdecljfmckaaGreatDoor
open Go.RowKit

theorem addB (X Y : ByteArray) (hx : X.size ≤ 200000) (hy : Y.size ≤ 200000) (W : World) : (Op.stringOp .add X Y).run Tryz.prog W = .ok (.string (X ++ Y)) W := by
  apply run_string_add
  · omega
  · omega

theorem szA {X Y : ByteArray} {m n : Nat} (hx : X.size ≤ m) (hy : Y.size ≤ n) : (X ++ Y).size ≤ m + n := by rw [ByteArray.size_append]; omega

/-- a list's bytes as a string -/
def bA (l : List UInt8) : ByteArray := ⟨l.toArray⟩
theorem bA_size (l : List UInt8) : (bA l).size = l.length := by simp [bA, ByteArray.size]
theorem bA_app (a b : List UInt8) : bA a ++ bA b = bA (a ++ b) := by apply ByteArray.ext; simp [bA, ByteArray.data_append]

/-- the line by what the opcode is -/
def oneB (n194 aB nB sB c0 c8 jB lB stB : Bool) (N W M Z D S O J I : List UInt8) : List UInt8 :=
  if n194 then [110, 111, 115, 112, 101, 99]
  else if aB && nB then [110, 101, 103] ++ W ++ D
  else if aB then N ++ W ++ D ++ [32] ++ M
  else if sB then (if c0 then [106, 97, 32] ++ J else if c8 then [99, 97, 108, 108, 32] ++ I else [101, 120, 105, 116])
  else if jB then N ++ W ++ D ++ [32] ++ M ++ [32] ++ J
  else if lB then [108, 100, 120] ++ Z ++ S ++ [32] ++ O
  else if stB then [115, 116] ++ Z ++ O ++ [32] ++ I
  else [115, 116, 120] ++ Z ++ O ++ [32] ++ S

theorem one_line (i : Ins) : lineI i = oneB (i.op == 194) (arithB i.op) (codeN i.op == 128) (specB i.op) (codeN i.op == 0) (codeN i.op == 128) (jumpB i.op) (loadB i.op) (storeB i.op)
    (nameN i.op) (widthN i.op ++ [32]) (if regB i.op then regN i.src else itoaN i.imm) (decN (sizeN i.op) ++ [32] ++ regN i.dst ++ [32]) (regN i.dst) (regN i.src) (itoaN i.off) (signN i.off) (itoaN i.imm) := by
  unfold lineI oneB toks
  have e0 : (i.op == 194) = decide (i.op = 194) := rfl
  have e1 : (codeN i.op == 128) = decide (codeN i.op = 128) := rfl
  have e2 : (codeN i.op == 0) = decide (codeN i.op = 0) := rfl
  rw [e0, e1, e2]
  simp only [decide_eq_true_eq]
  split
  · rfl
  split
  · simp [joinW, Tok.show]
  split
  · split <;> simp [joinW, Tok.show]
  split
  · split
    · simp [joinW, Tok.show]
    · split <;> simp [joinW, Tok.show]
  split
  · split <;> simp [joinW, Tok.show]
  split
  · simp [joinW, Tok.show]
  split
  · simp [joinW, Tok.show]
  · simp [joinW, Tok.show]
theorem name_len (op : Nat) : (nameN op).length ≤ 1000 := by
  unfold nameN
  have h1 : ∀ k, ((arithN[k]?).getD []).length ≤ 1000 := fun k => by
    rcases Nat.lt_or_ge k 13 with h | h
    · have : ∀ k, k < 13 → ((arithN[k]?).getD []).length ≤ 1000 := by decide
      exact this k h
    · rw [List.getElem?_eq_none (by simp [arithN]; omega)]; simp
  have h2 : ∀ k, ((jumpN[k]?).getD []).length ≤ 1000 := fun k => by
    rcases Nat.lt_or_ge k 14 with h | h
    · have : ∀ k, k < 14 → ((jumpN[k]?).getD []).length ≤ 1000 := by decide
      exact this k h
    · rw [List.getElem?_eq_none (by simp [jumpN]; omega)]; simp
  split
  · exact h1 _
  · exact h2 _
theorem reg_len1 {n : Nat} (h : n < 256) : (regN n).length ≤ 1000 := by
  have := dec_len20 (n := n) (by omega)
  unfold regN
  simp only [List.length_cons]
  omega
theorem itoa_len1 {n : Int} (h : -10000000000 < n) (h2 : n < 10000000000) : (itoaN n).length ≤ 1000 := by
  have := itoa_len_le (n := n) (m := 19) (by omega) (by omega)
  omega
theorem sign_len1 {n : Int} (h : -10000000000 < n) (h2 : n < 10000000000) : (signN n).length ≤ 1000 := by
  have := sign_len_le (n := n) (m := 19) (by omega) (by omega)
  omega
theorem size_le (op : Nat) : sizeN op ≤ 8 := by
  unfold sizeN
  split
  · omega
  split
  · omega
  split
  · omega
  split <;> omega
end Go.Proofs.YtakcdecljfmckaaGreatDoor

namespace Go.Proofs.YtakcdecljfmckaaGreatDoor
open Go.RowKit

/-! ### bits of an opcode -/
theorem and240 (op : Nat) (h : op < 256) : bits BinOp.and IntKind.u8 (op : Int) 240 = (codeN op : Int) := by
  have : ∀ op : Nat, op < 256 → bits BinOp.and IntKind.u8 (op : Int) 240 = (codeN op : Int) := by decide +kernel
  exact this op h
theorem and8 (op : Nat) (h : op < 256) : (bits BinOp.and IntKind.u8 (op : Int) 8 == 0) = !regB op := by
  have : ∀ op : Nat, op < 256 → (bits BinOp.and IntKind.u8 (op : Int) 8 == 0) = !regB op := by decide +kernel
  exact this op h
theorem and7 (op : Nat) (h : op < 256) : bits BinOp.and IntKind.u8 (op : Int) 7 = (op : Int) % 8 := by
  have : ∀ op : Nat, op < 256 → bits BinOp.and IntKind.u8 (op : Int) 7 = (op : Int) % 8 := by decide +kernel
  exact this op h
theorem and8n (op : Nat) (h : op < 256) : (bits BinOp.and IntKind.u8 (op : Int) 8 != 0) = regB op := by
  rw [bne, and8 op h]
  simp

/-! ### what is used -/
def usesV (d s o i w : Bool) : Value := .agg #[.bool d, .bool s, .bool o, .bool i, .bool w]
/-- by a jump -/
def jumpF (c0 c128 c144 reg alone le : Bool) : Value :=
  if c0 then .tuple #[usesV false false true false false, .bool alone]
  else if c128 then .tuple #[usesV false false false true false, .bool alone]
  else if c144 then .tuple #[usesV false false false false false, .bool alone]
  else .tuple #[usesV true reg true (!reg) false, .bool le]
def aloneB (op : Nat) : Bool := op % 8 == 5 && !regB op
def jumpV (op : Nat) : Value := jumpF (codeN op == 0) (codeN op == 128) (codeN op == 144) (regB op) (aloneB op) (decide (codeN op ≤ 208))

set_option maxRecDepth 100000 in
set_option maxHeartbeats 1000000 in
theorem ijump_any (op : Nat) (h : op < 256) (w : World) : Calls Tryz.prog 132 #[.int .u8 op] w fun e w' => e = .returned (jumpV op) ∧ Fr No w w' := by
  have p1 := and240 op h
  have p2 := and8 op h
  have p3 := and8n op h
  have q0 : ((codeN op : Int) == 0) = (codeN op == 0) := beq_nat (codeN op) 0
  have q1 : ((codeN op : Int) == 128) = (codeN op == 128) := beq_nat (codeN op) 128
  have q2 : ((codeN op : Int) == 144) = (codeN op == 144) := beq_nat (codeN op) 144
  have q3 : decide ((codeN op : Int) ≤ 208) = decide (codeN op ≤ 208) := by rw [decide_eq_decide]; omega
  have q5 : ((op : Int) % 8 == 5) = (op % 8 == 5) := beq_mod op 8 5
  have q5' : (bits BinOp.and IntKind.u8 (op : Int) 7 == 5) = (op % 8 == 5) := by rw [and7 op h, ← q5]
  unfold jumpV aloneB
  generalize (op % 8 == 5) = b5 at *
  generalize regB op = rB at *
  generalize (codeN op == 0) = b0 at *
  generalize (codeN op == 128) = b1 at *
  generalize (codeN op == 144) = b2 at *
  generalize decide (codeN op ≤ 208) = le at *
  generalize codeN op = c at *
  clear h
  obtain ⟨R, hR⟩ : ∃ R, jumpF b0 b1 b2 rB (b5 && !rB) le = R := ⟨_, rfl⟩
  rw [hR]
  have HX := Lib.hid hR
  clear hR
  go_enter Tryz.func132, Tryz.ntmps132
  go_wp2_with fail
  all_goals clear p1 p2 p3 q0 q1 q2 q3 q5 q5'
  all_goals subst_vars
  all_goals go_returns
  all_goals exact ⟨by first | rfl | (cases rB <;> rfl) | (cases rB <;> cases b5 <;> rfl) | simp [jumpF, usesV, *], (Fr.refl _ _).alloc _⟩
end Go.Proofs.YtakcdecljfmckaaGreatDoor
