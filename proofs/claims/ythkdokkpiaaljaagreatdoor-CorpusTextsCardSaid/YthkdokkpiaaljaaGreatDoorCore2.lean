/- How a text is read, without the program. No condition. firewallref02: what an opcode is. -/
import Derived.Test.YthkdokkpiaaljaaGreatDoorCore1
set_option linter.all false
set_option linter.unusedVariables false
set_option linter.unusedSimpArgs false
namespace Go.Proofs.YthkdokkpiaaljaaGreatDoor
open Go.RowKit

/-- how many bytes the character in front has; 0: there is none that is UTF-8 -/
def lead (c : UInt8) : Nat := if c < 128 then 1 else if 194 ≤ c ∧ c < 224 then 2 else if 224 ≤ c ∧ c < 240 then 3 else if 240 ≤ c ∧ c < 245 then 4 else 0
def least2 (c : UInt8) : UInt8 := if c = 224 then 160 else if c = 240 then 144 else 128
def most2 (c : UInt8) : UInt8 := if c = 237 then 159 else if c = 244 then 143 else 191
def contB (t : List UInt8) (k : Nat) : Bool := match t[k]? with | some a => decide (128 ≤ a ∧ a ≤ 191) | none => false
def charN (s : List UInt8) : Nat :=
  match s with
  | [] => 0
  | c :: t =>
    if lead c ≤ 1 then lead c
    else if t.length + 1 < lead c then 0
    else match t with
      | [] => 0
      | a :: _ => if a < least2 c ∨ most2 c < a then 0 else if lead c = 2 then 2 else if !contB t 1 then 0 else if lead c = 3 then 3 else if !contB t 2 then 0 else 4

def blankB (c : List UInt8) : Bool := c == [9] || c == [13] || c == [32] || c == [194, 160] || c == [226, 128, 131]
def pushW (word : List UInt8) (acc : List (List UInt8)) : List (List UInt8) := if word = [] then acc else acc ++ [word]

def wordsF : Nat → List UInt8 → Bool → List UInt8 → List (List UInt8) → Option (List (List UInt8))
  | 0, s, _, word, acc => if s = [] then some (pushW word acc) else none
  | k + 1, s, over, word, acc =>
    if s = [] then some (pushW word acc)
    else if charN s = 0 then none
    else
      if over || s.take (charN s) == [59] || blankB (s.take (charN s)) then wordsF k (s.drop (charN s)) (over || s.take (charN s) == [59]) [] (pushW word acc)
      else wordsF k (s.drop (charN s)) false (word ++ s.take (charN s)) acc
/-- a line's words; none: it is no UTF-8 -/
def wordsL (s : List UInt8) : Option (List (List UInt8)) := wordsF s.length s false [] []

def digV : List UInt8 → Nat → Option Nat
  | [], n => some n
  | c :: t, n => if c < 48 ∨ 57 < c then none else if (18446744073709551615 - (c.toNat - 48)) / 10 < n then none else digV t (n * 10 + (c.toNat - 48))
def digL (s : List UInt8) : Option Nat := if s = [] then none else digV s 0
/-- a word's number, with its sign -/
def numW (s : List UInt8) : Option (Bool × Nat) :=
  if 3 < s.length ∧ s.take 3 = [226, 136, 146] then (digL (s.drop 3)).map (true, ·)
  else if 1 < s.length ∧ s.head? = some 45 then (digL (s.drop 1)).map (true, ·)
  else if 1 < s.length ∧ s.head? = some 43 then (digL (s.drop 1)).map (false, ·)
  else (digL s).map (false, ·)
/-- it lies from -lo up to hi -/
def parseI (s : List UInt8) (lo hi : Nat) : Option Int :=
  match numW s with
  | none => none
  | some (true, n) => if n ≤ lo then some (-(n : Int)) else none
  | some (false, n) => if n ≤ hi then some n else none
def regW (s : List UInt8) : Option Nat := (List.range 11).find? fun n => s == regN n

inductive Kd where | d | s | o | v | e
def fieldI (i : Ins) (k : Kd) (w : List UInt8) : Option Ins :=
  match k with
  | .d => (regW w).map fun r => { i with dst := r }
  | .s => (regW w).map fun r => { i with src := r }
  | .o => (parseI w 32768 32767).map fun x => { i with off := x }
  | .v => (parseI w 2147483648 2147483647).map fun x => { i with imm := x }
  | .e => match regW w with
    | some r => some { i with src := r, op := i.op + 8 }
    | none => (parseI w 2147483648 2147483647).map fun x => { i with imm := x }
def fieldsI : Ins → List Kd → List (List UInt8) → Option Ins
  | i, [], [] => some i
  | i, k :: ks, w :: ws => (fieldI i k w).bind fun j => fieldsI j ks ws
  | _, _, _ => none
/-- the first word of an opcode without FromReg, and what stands behind it -/
def table (op : Nat) : Option (List UInt8 × List Kd) :=
  if op = 194 then some ([110, 111, 115, 112, 101, 99], [])
  else if op = 149 then some ([101, 120, 105, 116], [])
  else if op = 133 then some ([99, 97, 108, 108], [.v])
  else if op = 5 then some ([106, 97], [.o])
  else if loadB op then some ([108, 100, 120] ++ decN (sizeN op), [.d, .s, .o])
  else if storeB op then some ([115, 116] ++ decN (sizeN op), [.d, .o, .v])
  else if storeRB op then some ([115, 116, 120] ++ decN (sizeN op), [.d, .o, .s])
  else if regB op || !(arithB op || jumpB op) || nameN op == [] then none
  else some (nameN op ++ widthN op, if jumpB op then [.d, .e, .o] else if codeN op = 128 then [.d] else [.d, .e])
def kindsOf (op : Nat) : List Kd := match table op with | some x => x.2 | none => []
def hitB (first : List UInt8) (op : Nat) : Bool := match table op with | some x => x.1 == first | none => false
def s32 (n : Nat) : Int := if n < 2147483648 then n else (n : Int) - 4294967296
/-- the slots of a line's words -/
def lineW : List (List UInt8) → Option (List Ins)
  | [] => none
  | first :: rest =>
    if first = [114, 97, 119] then
      match rest with
      | [a, b, c, o, v] => (parseI a 0 255).bind fun x => (parseI b 0 255).bind fun y => (parseI c 0 255).bind fun z => (fieldsI ⟨x.toNat, y.toNat, z.toNat, 0, 0⟩ [.o, .v] [o, v]).map fun i => [i]
      | _ => none
    else if first = [108, 100, 105, 109, 109] then
      match rest with
      | [a, b] => (regW a).bind fun r => (parseI b 0 18446744073709551615).map fun n => [⟨24, r, 0, 0, s32 (n.toNat % 4294967296)⟩, ⟨0, 0, 0, 0, s32 (n.toNat / 4294967296)⟩]
      | _ => none
    else if first = [108, 100, 109, 97, 112] then (fieldsI ⟨24, 0, 1, 0, 0⟩ [.d, .v] rest).map fun i => [i, ⟨0, 0, 0, 0, 0⟩]
    else match (List.range 256).find? (hitB first) with
      | none => none
      | some op => (fieldsI ⟨op, 0, 0, 0, 0⟩ (kindsOf op) rest).map fun i => [i]

/-- a text's lines -/
def splitF : List UInt8 → List UInt8 → List (List UInt8)
  | [], cur => [cur]
  | c :: s, cur => if c = 10 then cur :: splitF s [] else splitF s (cur ++ [c])
def splitL (s : List UInt8) : List (List UInt8) := splitF s []

def slotsL (t : List UInt8) : Option (List Ins) := (wordsL t).bind fun ws => if ws = [] then some [] else lineW ws
def readF : List (List UInt8) → Nat → List Ins → List Ins × Nat × Int
  | [], _, acc => (acc, 0, 0)
  | t :: r, a, acc =>
    match slotsL t with
    | none => ([], a, 10)
    | some more => if 64 < (acc ++ more).length then ([], a, 3) else readF r (a + 1) (acc ++ more)
/-- a text's program; the line that is wrong; the error -/
def readS (s : List UInt8) : List Ins × Nat × Int := if 4000 < s.length then ([], 0, 3) else readF (splitL s) 1 []

end Go.Proofs.YthkdokkpiaaljaaGreatDoor

namespace Go.Proofs.YthkdokkpiaaljaaGreatDoor
open Go.RowKit

theorem beq_nat (a b : Nat) : ((a : Int) == (b : Int)) = (a == b) := by
  rw [Bool.eq_iff_iff]; simp; omega
theorem beq_mod (a k c : Nat) : (((a : Int) % (k : Int)) == (c : Int)) = (a % k == c) := by
  rw [← beq_nat]; rfl

set_option maxRecDepth 100000 in
theorem arith_any (op : Nat) (h : op < 256) (w : World) : Calls Tryz.prog 57 #[.int .u8 op] w fun e w' => e = .returned (.bool (arithB op)) ∧ w = w' := by
  have q1 : ((op : Int) % 8 == 4) = (op % 8 == 4) := beq_mod op 8 4
  have q2 : ((op : Int) % 8 == 7) = (op % 8 == 7) := beq_mod op 8 7
  unfold arithB
  generalize (op % 8 == 4) = b1 at *
  generalize (op % 8 == 7) = b2 at *
  clear h
  cases b1
  all_goals go_enter Tryz.func57, Tryz.ntmps57
  all_goals go_wp2_with fail
  all_goals go_ret
  all_goals exact ⟨rfl, rfl⟩
set_option maxRecDepth 100000 in
theorem jump_any (op : Nat) (h : op < 256) (w : World) : Calls Tryz.prog 59 #[.int .u8 op] w fun e w' => e = .returned (.bool (jumpB op)) ∧ w = w' := by
  have q1 : ((op : Int) % 8 == 5) = (op % 8 == 5) := beq_mod op 8 5
  have q2 : ((op : Int) % 8 == 6) = (op % 8 == 6) := beq_mod op 8 6
  unfold jumpB
  generalize (op % 8 == 5) = b1 at *
  generalize (op % 8 == 6) = b2 at *
  clear h
  cases b1
  all_goals go_enter Tryz.func59, Tryz.ntmps59
  all_goals go_wp2_with fail
  all_goals go_ret
  all_goals exact ⟨rfl, rfl⟩
set_option maxRecDepth 100000 in
theorem code_any (op : Nat) (h : op < 256) (w : World) : Calls Tryz.prog 64 #[.int .u8 op] w fun e w' => e = .returned (.int .i64 (codeN op)) ∧ w = w' := by
  have f1 : IntKind.i64.wrap (op : Int) = op := IntWalk.i64_in _ (by omega)
  have f2 : (op : Int).tdiv 16 = ((op / 16 : Nat) : Int) := by rw [Int.tdiv_eq_ediv_of_nonneg (by omega)]; omega
  have f2' : (op : Int) / 16 = ((op / 16 : Nat) : Int) := by omega
  have f3 : IntKind.i64.wrap (((op / 16 : Nat) : Int)) = ((op / 16 : Nat) : Int) := IntWalk.i64_in _ (by omega)
  have f4 : IntKind.i64.wrap (((op / 16 : Nat) : Int) * 16) = ((op / 16 : Nat) : Int) * 16 := IntWalk.i64_in _ (by omega)
  have e : ((codeN op : Nat) : Int) = ((op / 16 : Nat) : Int) * 16 := by unfold codeN; omega
  rw [e]
  generalize op / 16 = k at *
  clear h e
  go_enter Tryz.func64, Tryz.ntmps64
  go_wp2_with fail
  go_ret
  exact ⟨rfl, rfl⟩
set_option maxRecDepth 100000 in
theorem regb_any (op : Nat) (h : op < 256) (w : World) : Calls Tryz.prog 63 #[.int .u8 op] w fun e w' => e = .returned (.bool (regB op)) ∧ w = w' := by
  have f2 : (op : Int).tdiv 8 = ((op / 8 : Nat) : Int) := by rw [Int.tdiv_eq_ediv_of_nonneg (by omega)]; omega
  have f2' : (op : Int) / 8 = ((op / 8 : Nat) : Int) := by omega
  have q : (((op / 8 : Nat) : Int) % 2 == 1) = (op / 8 % 2 == 1) := beq_mod (op / 8) 2 1
  unfold regB
  generalize (op / 8 % 2 == 1) = b at *
  generalize op / 8 = k at *
  clear h
  go_enter Tryz.func63, Tryz.ntmps63
  go_wp2_with fail
  go_ret
  exact ⟨rfl, rfl⟩
set_option maxRecDepth 100000 in
theorem load_any (op : Nat) (h : op < 256) (w : World) : Calls Tryz.prog 58 #[.int .u8 op] w fun e w' => e = .returned (.bool (loadB op)) ∧ w = w' := by
  have q1 : ((op : Int) == 113) = (op == 113) := beq_nat op 113
  have q2 : ((op : Int) == 105) = (op == 105) := beq_nat op 105
  have q3 : ((op : Int) == 97) = (op == 97) := beq_nat op 97
  have q4 : ((op : Int) == 121) = (op == 121) := beq_nat op 121
  unfold loadB
  generalize (op == 113) = b1 at *
  generalize (op == 105) = b2 at *
  generalize (op == 97) = b3 at *
  generalize (op == 121) = b4 at *
  clear h
  cases b1 <;> cases b2 <;> cases b3
  all_goals go_enter Tryz.func58, Tryz.ntmps58
  all_goals go_wp2_with fail
  all_goals go_ret
  all_goals exact ⟨rfl, rfl⟩
set_option maxRecDepth 100000 in
theorem store_any (op : Nat) (h : op < 256) (w : World) : Calls Tryz.prog 61 #[.int .u8 op] w fun e w' => e = .returned (.bool (storeB op)) ∧ w = w' := by
  have q1 : ((op : Int) == 114) = (op == 114) := beq_nat op 114
  have q2 : ((op : Int) == 106) = (op == 106) := beq_nat op 106
  have q3 : ((op : Int) == 98) = (op == 98) := beq_nat op 98
  have q4 : ((op : Int) == 122) = (op == 122) := beq_nat op 122
  unfold storeB
  generalize (op == 114) = b1 at *
  generalize (op == 106) = b2 at *
  generalize (op == 98) = b3 at *
  generalize (op == 122) = b4 at *
  clear h
  cases b1 <;> cases b2 <;> cases b3
  all_goals go_enter Tryz.func61, Tryz.ntmps61
  all_goals go_wp2_with fail
  all_goals go_ret
  all_goals exact ⟨rfl, rfl⟩
set_option maxRecDepth 100000 in
theorem storer_any (op : Nat) (h : op < 256) (w : World) : Calls Tryz.prog 62 #[.int .u8 op] w fun e w' => e = .returned (.bool (storeRB op)) ∧ w = w' := by
  have q1 : ((op : Int) == 115) = (op == 115) := beq_nat op 115
  have q2 : ((op : Int) == 107) = (op == 107) := beq_nat op 107
  have q3 : ((op : Int) == 99) = (op == 99) := beq_nat op 99
  have q4 : ((op : Int) == 123) = (op == 123) := beq_nat op 123
  unfold storeRB
  generalize (op == 115) = b1 at *
  generalize (op == 107) = b2 at *
  generalize (op == 99) = b3 at *
  generalize (op == 123) = b4 at *
  clear h
  cases b1 <;> cases b2 <;> cases b3
  all_goals go_enter Tryz.func62, Tryz.ntmps62
  all_goals go_wp2_with fail
  all_goals go_ret
  all_goals exact ⟨rfl, rfl⟩
set_option maxRecDepth 100000 in
theorem special_any (op : Nat) (h : op < 256) (w : World) : Calls Tryz.prog 60 #[.int .u8 op] w fun e w' => e = .returned (.bool (specB op)) ∧ w = w' := by
  have HJ : Hid (∀ W, Calls Tryz.prog 59 #[.int .u8 op] W fun e w' => e = .returned (.bool (jumpB op)) ∧ W = w') := fun W => jump_any op h W
  have HC : Hid (∀ W, Calls Tryz.prog 64 #[.int .u8 op] W fun e w' => e = .returned (.int .i64 (codeN op)) ∧ W = w') := fun W => code_any op h W
  have q1 : ((codeN op : Int) == 0) = (codeN op == 0) := beq_nat (codeN op) 0
  have q2 : ((codeN op : Int) == 128) = (codeN op == 128) := beq_nat (codeN op) 128
  have q3 : ((codeN op : Int) == 144) = (codeN op == 144) := beq_nat (codeN op) 144
  unfold specB
  generalize (codeN op == 0) = b1 at *
  generalize (codeN op == 128) = b2 at *
  generalize (codeN op == 144) = b3 at *
  generalize jumpB op = j at *
  generalize codeN op = k at *
  clear h
  cases j <;> cases b1 <;> cases b2
  all_goals go_enter Tryz.func60, Tryz.ntmps60
  all_goals go_wp2_with (first
    | (go_at_call 59; (with_reducible refine (HJ.out _).mono ?_); rintro e w1 ⟨rfl, rfl⟩)
    | (go_at_call 64; (with_reducible refine (HC.out _).mono ?_); rintro e w2 ⟨rfl, rfl⟩))
  all_goals go_ret
  all_goals exact ⟨rfl, rfl⟩
end Go.Proofs.YthkdokkpiaaljaaGreatDoor
