/- insns.form: what an opcode uses. -/
import Derived.Test.YtakcdecljfmckaaGreatDoorCore10
set_option linter.all false
set_option linter.unusedVariables false
set_option linter.unusedSimpArgs false
namespace Go.Proofs.YtakcdecljfmckaaGreatDoor
open Go.RowKit

def formF (b4 b7 b5 b6 neg reg le n24 l1 l2 l3 l4 s1 s2 s3 s4 x1 x2 x3 x4 n194 inner : Bool) (J : Value) : Value :=
  if b4 || b7 then .tuple #[usesV true reg false (!reg && !neg) true, .bool (le && !(neg && reg))]
  else if b5 || b6 then J
  else if n24 then .tuple #[usesV true true false true true, .bool true]
  else if l1 || l2 || l3 || l4 then .tuple #[usesV true true true false true, .bool true]
  else if s1 || s2 || s3 || s4 then .tuple #[usesV true false true true false, .bool true]
  else if x1 || x2 || x3 || x4 then .tuple #[usesV true true true false false, .bool true]
  else if n194 then .tuple #[usesV false false false false false, .bool inner]
  else .tuple #[usesV false false false false false, .bool false]
def formV (op : Nat) (inner : Bool) : Value :=
  formF (op % 8 == 4) (op % 8 == 7) (op % 8 == 5) (op % 8 == 6) (codeN op == 128) (regB op) (decide (codeN op ≤ 192)) (op == 24) (op == 113) (op == 105) (op == 97) (op == 121) (op == 114) (op == 106) (op == 98) (op == 122) (op == 115) (op == 107) (op == 99) (op == 123) (op == 194) inner (jumpV op)

/-- whether a jump may be, and what it uses -/
def jumpB5 (op : Nat) : List Bool :=
  if codeN op == 0 then [false, false, true, false, false, aloneB op] else if codeN op == 128 then [false, false, false, true, false, aloneB op] else if codeN op == 144 then [false, false, false, false, false, aloneB op]
  else [true, regB op, true, !regB op, false, decide (codeN op ≤ 208)]
def formB5 (op : Nat) (inner : Bool) : List Bool :=
  if op % 8 == 4 || op % 8 == 7 then [true, regB op, false, !regB op && !(codeN op == 128), true, decide (codeN op ≤ 192) && !(codeN op == 128 && regB op)]
  else if op % 8 == 5 || op % 8 == 6 then jumpB5 op
  else if op == 24 then [true, true, false, true, true, true]
  else if op == 113 || op == 105 || op == 97 || op == 121 then [true, true, true, false, true, true]
  else if op == 114 || op == 106 || op == 98 || op == 122 then [true, false, true, true, false, true]
  else if op == 115 || op == 107 || op == 99 || op == 123 then [true, true, true, false, false, true]
  else if op == 194 then [false, false, false, false, false, inner]
  else [false, false, false, false, false, false]
def asV : List Bool → Value
  | [d, s, o, i, w, ok] => .tuple #[usesV d s o i w, .bool ok]
  | _ => .tuple #[]
theorem jumpV_eq (op : Nat) : jumpV op = asV (jumpB5 op) := by
  unfold jumpV jumpF jumpB5
  split
  · rfl
  split
  · rfl
  split <;> rfl
theorem formV_eq (op : Nat) (inner : Bool) : formV op inner = asV (formB5 op inner) := by
  unfold formV formF formB5
  rw [jumpV_eq]
  split
  · rfl
  split
  · rfl
  split
  · rfl
  split
  · rfl
  split
  · rfl
  split
  · rfl
  split <;> rfl
def formOk (op : Nat) (inner : Bool) : Bool :=
  match formB5 op inner with
  | [d, s, o, i, w, ok] => ok == knownB op inner && (!knownB op inner || (d == dstB op && s == srcB op && o == offB op && i == immB op && w == writesB op))
  | _ => false
theorem form_all : (List.range 256).all (fun op => formOk op true && formOk op false) = true := by decide +kernel
theorem formB5_is (op : Nat) (h : op < 256) (inner : Bool) : ∃ d s o i w, formV op inner = .tuple #[usesV d s o i w, .bool (knownB op inner)] ∧ (knownB op inner = true → d = dstB op ∧ s = srcB op ∧ o = offB op ∧ i = immB op ∧ w = writesB op) := by
  have h1 := List.all_eq_true.1 form_all op (List.mem_range.2 h)
  simp only [Bool.and_eq_true] at h1
  have h2 : formOk op inner = true := by cases inner; exact h1.2; exact h1.1
  rw [formV_eq]
  unfold formOk at h2
  split at h2
  · rename_i d s o i w ok heq
    rw [heq]
    simp only [Bool.and_eq_true, beq_iff_eq, Bool.or_eq_true, Bool.not_eq_true'] at h2
    obtain ⟨rfl, h3⟩ := h2
    refine ⟨d, s, o, i, w, rfl, fun hk => ?_⟩
    rcases h3 with h3 | h3
    · rw [hk] at h3; cases h3
    · obtain ⟨⟨⟨⟨a, b⟩, c⟩, d⟩, e⟩ := h3
      exact ⟨a, b, c, d, e⟩
  · cases h2

theorem own5 {w w1 : World} {a0 a1 a2 a3 a4 : Value} {t : TypeId} (h : Fr No (w.alloc (.cells #[a0, a1, a2, a3, a4] t)) w1) : (w1.cell? ⟨w.heap.size, 0, none⟩ = some a0 ∧ w1.frozen? ⟨w.heap.size, 0, none⟩ = false) ∧ (w1.cell? ⟨w.heap.size, 1, none⟩ = some a1 ∧ w1.frozen? ⟨w.heap.size, 1, none⟩ = false) ∧ (w1.cell? ⟨w.heap.size, 2, none⟩ = some a2 ∧ w1.frozen? ⟨w.heap.size, 2, none⟩ = false) ∧ (w1.cell? ⟨w.heap.size, 3, none⟩ = some a3 ∧ w1.frozen? ⟨w.heap.size, 3, none⟩ = false) ∧ (w1.cell? ⟨w.heap.size, 4, none⟩ = some a4 ∧ w1.frozen? ⟨w.heap.size, 4, none⟩ = false) := by
  have g : ∀ (j : Nat) v, (w.alloc (.cells #[a0, a1, a2, a3, a4] t)).cell? ⟨w.heap.size, j, none⟩ = some v → (w.alloc (.cells #[a0, a1, a2, a3, a4] t)).frozen? ⟨w.heap.size, j, none⟩ = false → w1.cell? ⟨w.heap.size, j, none⟩ = some v ∧ w1.frozen? ⟨w.heap.size, j, none⟩ = false := fun j v hc hz => ⟨h.cell hc id, (h.frozen hc id).trans hz⟩
  exact ⟨g 0 _ (by go_simp) (by go_simp), g 1 _ (by go_simp) (by go_simp), g 2 _ (by go_simp) (by go_simp), g 3 _ (by go_simp) (by go_simp), g 4 _ (by go_simp) (by go_simp)⟩
set_option maxRecDepth 100000 in
set_option maxHeartbeats 1000000 in
theorem form_arith (op : Nat) (h : op < 256) (inner : Bool) (ha : op % 8 = 4 ∨ op % 8 = 7) (w : World) : Calls Tryz.prog 107 #[.int .u8 op, .bool inner] w fun e w' => e = .returned (.tuple #[usesV true (regB op) false (!regB op && !(codeN op == 128)) true, .bool (decide (codeN op ≤ 192) && !(codeN op == 128 && regB op))]) ∧ Fr No w w' := by
  have p1 := and240 op h
  have p2 := and8 op h
  have p3 := and8n op h
  have p7 := and7 op h
  have q1 : ((codeN op : Int) == 128) = (codeN op == 128) := beq_nat (codeN op) 128
  have q3 : decide ((codeN op : Int) ≤ 192) = decide (codeN op ≤ 192) := by rw [decide_eq_decide]; omega
  have r4 : ((op : Int) % 8 == 4) = (op % 8 == 4) := beq_mod op 8 4
  have r7 : ((op : Int) % 8 == 7) = (op % 8 == 7) := beq_mod op 8 7
  have hb : (op % 8 == 4) = true ∨ ((op % 8 == 4) = false ∧ (op % 8 == 7) = true) := by
    rcases ha with h | h
    · left; simp [h]
    · right; simp [h]
  generalize regB op = rB at *
  generalize (codeN op == 128) = b1 at *
  generalize decide (codeN op ≤ 192) = le at *
  generalize codeN op = c at *
  generalize (op % 8 == 4) = b4 at *
  generalize (op % 8 == 7) = b7 at *
  clear h ha
  unfold usesV
  rcases hb with rfl | ⟨rfl, rfl⟩
  all_goals cases rB
  all_goals cases le
  all_goals go_enter Tryz.func107, Tryz.ntmps107
  all_goals go_wp2_with fail
  all_goals go_returns
  all_goals exact ⟨by first | rfl | (cases b1 <;> first | rfl | contradiction | simp_all), (Fr.refl _ _).alloc _⟩
set_option maxRecDepth 100000 in
set_option maxHeartbeats 1000000 in
theorem form_jump (op : Nat) (h : op < 256) (inner : Bool) (ha : op % 8 = 5 ∨ op % 8 = 6) (w : World) : Calls Tryz.prog 107 #[.int .u8 op, .bool inner] w fun e w' => e = .returned (asV (jumpB5 op)) ∧ Fr No w w' := by
  have HJ : Hid (∀ W, Calls Tryz.prog 132 #[.int .u8 op] W fun e w' => e = .returned (asV (jumpB5 op)) ∧ Fr No W w') := fun W => by have := ijump_any op h W; rw [jumpV_eq] at this; exact this
  have p1 := and240 op h
  have p2 := and8 op h
  have p3 := and8n op h
  have p7 := and7 op h
  have r4 : ((op : Int) % 8 == 4) = false := by rw [show (4 : Int) = ((4 : Nat) : Int) from rfl, show (8 : Int) = ((8 : Nat) : Int) from rfl, beq_mod]; simp; omega
  have r7 : ((op : Int) % 8 == 7) = false := by rw [show (7 : Int) = ((7 : Nat) : Int) from rfl, show (8 : Int) = ((8 : Nat) : Int) from rfl, beq_mod]; simp; omega
  have r5 : ((op : Int) % 8 == 5) = (op % 8 == 5) := beq_mod op 8 5
  have r6 : ((op : Int) % 8 == 6) = (op % 8 == 6) := beq_mod op 8 6
  have hb : (op % 8 == 5) = true ∨ ((op % 8 == 5) = false ∧ (op % 8 == 6) = true) := by
    rcases ha with h | h
    · left; simp [h]
    · right; simp [h]
  obtain ⟨J0, J1, J2, J3, J4, J5, hJ⟩ : ∃ J0 J1 J2 J3 J4 J5, jumpB5 op = [J0, J1, J2, J3, J4, J5] := by
    unfold jumpB5
    split
    · exact ⟨_, _, _, _, _, _, rfl⟩
    split
    · exact ⟨_, _, _, _, _, _, rfl⟩
    split <;> exact ⟨_, _, _, _, _, _, rfl⟩
  rw [hJ] at HJ ⊢
  have HJ2 : Hid (∀ W, Calls Tryz.prog 132 #[.int .u8 op] W fun e w' => e = .returned (.tuple #[.agg #[.bool J0, .bool J1, .bool J2, .bool J3, .bool J4], .bool J5]) ∧ Fr No W w') := HJ
  clear HJ hJ
  generalize regB op = rB at *
  generalize codeN op = c at *
  generalize (op % 8 == 5) = b5 at *
  generalize (op % 8 == 6) = b6 at *
  clear h ha
  rcases hb with rfl | ⟨rfl, rfl⟩
  all_goals go_enter Tryz.func107, Tryz.ntmps107
  all_goals go_wp2_with (go_at_call 132; (with_reducible refine (HJ2.out _).mono ?_); rintro e w1 ⟨rfl, hf1⟩; have HF1 := Lib.hid hf1; obtain ⟨⟨c0, z0⟩, ⟨c1, z1⟩, ⟨c2, z2⟩, ⟨c3, z3⟩, ⟨c4, z4⟩⟩ := own5 hf1; clear hf1)
  all_goals exact bodyPost_ret (v := .tuple #[.agg #[.bool J0, .bool J1, .bool J2, .bool J3, .bool J4], .bool J5]) (by simp [results, Tryz.results107, go_sem, c0, c1, c2, c3, c4]) rfl ⟨rfl, (((((((Fr.refl _ _).alloc _).trans HF1.out).setCell (.inl (Nat.le_refl _)) _).setCell (.inl (Nat.le_refl _)) _).setCell (.inl (Nat.le_refl _)) _).setCell (.inl (Nat.le_refl _)) _).setCell (.inl (Nat.le_refl _)) _⟩
set_option maxRecDepth 100000 in
set_option maxHeartbeats 1000000 in
theorem form_24 (op : Nat) (h : op < 256) (inner : Bool) (ha : op = 24) (w : World) : Calls Tryz.prog 107 #[.int .u8 op, .bool inner] w fun e w' => e = .returned (.tuple #[usesV true true false true true, .bool true]) ∧ Fr No w w' := by
  have p1 := and240 op h
  have p2 := and8 op h
  have p3 := and8n op h
  have p7 := and7 op h
  have r4 : ((op : Int) % 8 == 4) = false := by rw [show (4 : Int) = ((4 : Nat) : Int) from rfl, show (8 : Int) = ((8 : Nat) : Int) from rfl, beq_mod]; simp; omega
  have r5 : ((op : Int) % 8 == 5) = false := by rw [show (5 : Int) = ((5 : Nat) : Int) from rfl, show (8 : Int) = ((8 : Nat) : Int) from rfl, beq_mod]; simp; omega
  have r6 : ((op : Int) % 8 == 6) = false := by rw [show (6 : Int) = ((6 : Nat) : Int) from rfl, show (8 : Int) = ((8 : Nat) : Int) from rfl, beq_mod]; simp; omega
  have r7 : ((op : Int) % 8 == 7) = false := by rw [show (7 : Int) = ((7 : Nat) : Int) from rfl, show (8 : Int) = ((8 : Nat) : Int) from rfl, beq_mod]; simp; omega
  have e0 : ((op : Int) == 24) = true := by rw [ha]; rfl
  generalize regB op = rB at *
  generalize codeN op = c at *
  clear h ha
  go_enter Tryz.func107, Tryz.ntmps107
  go_wp2_with fail
  go_returns
  exact ⟨rfl, (Fr.refl _ _).alloc _⟩
set_option maxRecDepth 100000 in
set_option maxHeartbeats 1000000 in
theorem form_113 (op : Nat) (h : op < 256) (inner : Bool) (ha : op = 113) (w : World) : Calls Tryz.prog 107 #[.int .u8 op, .bool inner] w fun e w' => e = .returned (.tuple #[usesV true true true false true, .bool true]) ∧ Fr No w w' := by
  have p1 := and240 op h
  have p2 := and8 op h
  have p3 := and8n op h
  have p7 := and7 op h
  have r4 : ((op : Int) % 8 == 4) = false := by rw [show (4 : Int) = ((4 : Nat) : Int) from rfl, show (8 : Int) = ((8 : Nat) : Int) from rfl, beq_mod]; simp; omega
  have r5 : ((op : Int) % 8 == 5) = false := by rw [show (5 : Int) = ((5 : Nat) : Int) from rfl, show (8 : Int) = ((8 : Nat) : Int) from rfl, beq_mod]; simp; omega
  have r6 : ((op : Int) % 8 == 6) = false := by rw [show (6 : Int) = ((6 : Nat) : Int) from rfl, show (8 : Int) = ((8 : Nat) : Int) from rfl, beq_mod]; simp; omega
  have r7 : ((op : Int) % 8 == 7) = false := by rw [show (7 : Int) = ((7 : Nat) : Int) from rfl, show (8 : Int) = ((8 : Nat) : Int) from rfl, beq_mod]; simp; omega
  have e0 : ((op : Int) == 24) = false := by rw [ha]; rfl
  have e1 : ((op : Int) == 113) = true := by rw [ha]; rfl
  generalize regB op = rB at *
  generalize codeN op = c at *
  clear h ha
  go_enter Tryz.func107, Tryz.ntmps107
  go_wp2_with fail
  go_returns
  exact ⟨rfl, (Fr.refl _ _).alloc _⟩
set_option maxRecDepth 100000 in
set_option maxHeartbeats 1000000 in
theorem form_105 (op : Nat) (h : op < 256) (inner : Bool) (ha : op = 105) (w : World) : Calls Tryz.prog 107 #[.int .u8 op, .bool inner] w fun e w' => e = .returned (.tuple #[usesV true true true false true, .bool true]) ∧ Fr No w w' := by
  have p1 := and240 op h
  have p2 := and8 op h
  have p3 := and8n op h
  have p7 := and7 op h
  have r4 : ((op : Int) % 8 == 4) = false := by rw [show (4 : Int) = ((4 : Nat) : Int) from rfl, show (8 : Int) = ((8 : Nat) : Int) from rfl, beq_mod]; simp; omega
  have r5 : ((op : Int) % 8 == 5) = false := by rw [show (5 : Int) = ((5 : Nat) : Int) from rfl, show (8 : Int) = ((8 : Nat) : Int) from rfl, beq_mod]; simp; omega
  have r6 : ((op : Int) % 8 == 6) = false := by rw [show (6 : Int) = ((6 : Nat) : Int) from rfl, show (8 : Int) = ((8 : Nat) : Int) from rfl, beq_mod]; simp; omega
  have r7 : ((op : Int) % 8 == 7) = false := by rw [show (7 : Int) = ((7 : Nat) : Int) from rfl, show (8 : Int) = ((8 : Nat) : Int) from rfl, beq_mod]; simp; omega
  have e0 : ((op : Int) == 24) = false := by rw [ha]; rfl
  have e1 : ((op : Int) == 113) = false := by rw [ha]; rfl
  have e2 : ((op : Int) == 105) = true := by rw [ha]; rfl
  generalize regB op = rB at *
  generalize codeN op = c at *
  clear h ha
  go_enter Tryz.func107, Tryz.ntmps107
  go_wp2_with fail
  go_returns
  exact ⟨rfl, (Fr.refl _ _).alloc _⟩
set_option maxRecDepth 100000 in
set_option maxHeartbeats 1000000 in
theorem form_97 (op : Nat) (h : op < 256) (inner : Bool) (ha : op = 97) (w : World) : Calls Tryz.prog 107 #[.int .u8 op, .bool inner] w fun e w' => e = .returned (.tuple #[usesV true true true false true, .bool true]) ∧ Fr No w w' := by
  have p1 := and240 op h
  have p2 := and8 op h
  have p3 := and8n op h
  have p7 := and7 op h
  have r4 : ((op : Int) % 8 == 4) = false := by rw [show (4 : Int) = ((4 : Nat) : Int) from rfl, show (8 : Int) = ((8 : Nat) : Int) from rfl, beq_mod]; simp; omega
  have r5 : ((op : Int) % 8 == 5) = false := by rw [show (5 : Int) = ((5 : Nat) : Int) from rfl, show (8 : Int) = ((8 : Nat) : Int) from rfl, beq_mod]; simp; omega
  have r6 : ((op : Int) % 8 == 6) = false := by rw [show (6 : Int) = ((6 : Nat) : Int) from rfl, show (8 : Int) = ((8 : Nat) : Int) from rfl, beq_mod]; simp; omega
  have r7 : ((op : Int) % 8 == 7) = false := by rw [show (7 : Int) = ((7 : Nat) : Int) from rfl, show (8 : Int) = ((8 : Nat) : Int) from rfl, beq_mod]; simp; omega
  have e0 : ((op : Int) == 24) = false := by rw [ha]; rfl
  have e1 : ((op : Int) == 113) = false := by rw [ha]; rfl
  have e2 : ((op : Int) == 105) = false := by rw [ha]; rfl
  have e3 : ((op : Int) == 97) = true := by rw [ha]; rfl
  generalize regB op = rB at *
  generalize codeN op = c at *
  clear h ha
  go_enter Tryz.func107, Tryz.ntmps107
  go_wp2_with fail
  go_returns
  exact ⟨rfl, (Fr.refl _ _).alloc _⟩
set_option maxRecDepth 100000 in
set_option maxHeartbeats 1000000 in
theorem form_121 (op : Nat) (h : op < 256) (inner : Bool) (ha : op = 121) (w : World) : Calls Tryz.prog 107 #[.int .u8 op, .bool inner] w fun e w' => e = .returned (.tuple #[usesV true true true false true, .bool true]) ∧ Fr No w w' := by
  have p1 := and240 op h
  have p2 := and8 op h
  have p3 := and8n op h
  have p7 := and7 op h
  have r4 : ((op : Int) % 8 == 4) = false := by rw [show (4 : Int) = ((4 : Nat) : Int) from rfl, show (8 : Int) = ((8 : Nat) : Int) from rfl, beq_mod]; simp; omega
  have r5 : ((op : Int) % 8 == 5) = false := by rw [show (5 : Int) = ((5 : Nat) : Int) from rfl, show (8 : Int) = ((8 : Nat) : Int) from rfl, beq_mod]; simp; omega
  have r6 : ((op : Int) % 8 == 6) = false := by rw [show (6 : Int) = ((6 : Nat) : Int) from rfl, show (8 : Int) = ((8 : Nat) : Int) from rfl, beq_mod]; simp; omega
  have r7 : ((op : Int) % 8 == 7) = false := by rw [show (7 : Int) = ((7 : Nat) : Int) from rfl, show (8 : Int) = ((8 : Nat) : Int) from rfl, beq_mod]; simp; omega
  have e0 : ((op : Int) == 24) = false := by rw [ha]; rfl
  have e1 : ((op : Int) == 113) = false := by rw [ha]; rfl
  have e2 : ((op : Int) == 105) = false := by rw [ha]; rfl
  have e3 : ((op : Int) == 97) = false := by rw [ha]; rfl
  have e4 : ((op : Int) == 121) = true := by rw [ha]; rfl
  generalize regB op = rB at *
  generalize codeN op = c at *
  clear h ha
  go_enter Tryz.func107, Tryz.ntmps107
  go_wp2_with fail
  go_returns
  exact ⟨rfl, (Fr.refl _ _).alloc _⟩
set_option maxRecDepth 100000 in
set_option maxHeartbeats 1000000 in
theorem form_114 (op : Nat) (h : op < 256) (inner : Bool) (ha : op = 114) (w : World) : Calls Tryz.prog 107 #[.int .u8 op, .bool inner] w fun e w' => e = .returned (.tuple #[usesV true false true true false, .bool true]) ∧ Fr No w w' := by
  have p1 := and240 op h
  have p2 := and8 op h
  have p3 := and8n op h
  have p7 := and7 op h
  have r4 : ((op : Int) % 8 == 4) = false := by rw [show (4 : Int) = ((4 : Nat) : Int) from rfl, show (8 : Int) = ((8 : Nat) : Int) from rfl, beq_mod]; simp; omega
  have r5 : ((op : Int) % 8 == 5) = false := by rw [show (5 : Int) = ((5 : Nat) : Int) from rfl, show (8 : Int) = ((8 : Nat) : Int) from rfl, beq_mod]; simp; omega
  have r6 : ((op : Int) % 8 == 6) = false := by rw [show (6 : Int) = ((6 : Nat) : Int) from rfl, show (8 : Int) = ((8 : Nat) : Int) from rfl, beq_mod]; simp; omega
  have r7 : ((op : Int) % 8 == 7) = false := by rw [show (7 : Int) = ((7 : Nat) : Int) from rfl, show (8 : Int) = ((8 : Nat) : Int) from rfl, beq_mod]; simp; omega
  have e0 : ((op : Int) == 24) = false := by rw [ha]; rfl
  have e1 : ((op : Int) == 113) = false := by rw [ha]; rfl
  have e2 : ((op : Int) == 105) = false := by rw [ha]; rfl
  have e3 : ((op : Int) == 97) = false := by rw [ha]; rfl
  have e4 : ((op : Int) == 121) = false := by rw [ha]; rfl
  have e5 : ((op : Int) == 114) = true := by rw [ha]; rfl
  generalize regB op = rB at *
  generalize codeN op = c at *
  clear h ha
  go_enter Tryz.func107, Tryz.ntmps107
  go_wp2_with fail
  go_returns
  exact ⟨rfl, (Fr.refl _ _).alloc _⟩
set_option maxRecDepth 100000 in
set_option maxHeartbeats 1000000 in
theorem form_106 (op : Nat) (h : op < 256) (inner : Bool) (ha : op = 106) (w : World) : Calls Tryz.prog 107 #[.int .u8 op, .bool inner] w fun e w' => e = .returned (.tuple #[usesV true false true true false, .bool true]) ∧ Fr No w w' := by
  have p1 := and240 op h
  have p2 := and8 op h
  have p3 := and8n op h
  have p7 := and7 op h
  have r4 : ((op : Int) % 8 == 4) = false := by rw [show (4 : Int) = ((4 : Nat) : Int) from rfl, show (8 : Int) = ((8 : Nat) : Int) from rfl, beq_mod]; simp; omega
  have r5 : ((op : Int) % 8 == 5) = false := by rw [show (5 : Int) = ((5 : Nat) : Int) from rfl, show (8 : Int) = ((8 : Nat) : Int) from rfl, beq_mod]; simp; omega
  have r6 : ((op : Int) % 8 == 6) = false := by rw [show (6 : Int) = ((6 : Nat) : Int) from rfl, show (8 : Int) = ((8 : Nat) : Int) from rfl, beq_mod]; simp; omega
  have r7 : ((op : Int) % 8 == 7) = false := by rw [show (7 : Int) = ((7 : Nat) : Int) from rfl, show (8 : Int) = ((8 : Nat) : Int) from rfl, beq_mod]; simp; omega
  have e0 : ((op : Int) == 24) = false := by rw [ha]; rfl
  have e1 : ((op : Int) == 113) = false := by rw [ha]; rfl
  have e2 : ((op : Int) == 105) = false := by rw [ha]; rfl
  have e3 : ((op : Int) == 97) = false := by rw [ha]; rfl
  have e4 : ((op : Int) == 121) = false := by rw [ha]; rfl
  have e5 : ((op : Int) == 114) = false := by rw [ha]; rfl
  have e6 : ((op : Int) == 106) = true := by rw [ha]; rfl
  generalize regB op = rB at *
  generalize codeN op = c at *
  clear h ha
  go_enter Tryz.func107, Tryz.ntmps107
  go_wp2_with fail
  go_returns
  exact ⟨rfl, (Fr.refl _ _).alloc _⟩
set_option maxRecDepth 100000 in
set_option maxHeartbeats 1000000 in
theorem form_98 (op : Nat) (h : op < 256) (inner : Bool) (ha : op = 98) (w : World) : Calls Tryz.prog 107 #[.int .u8 op, .bool inner] w fun e w' => e = .returned (.tuple #[usesV true false true true false, .bool true]) ∧ Fr No w w' := by
  have p1 := and240 op h
  have p2 := and8 op h
  have p3 := and8n op h
  have p7 := and7 op h
  have r4 : ((op : Int) % 8 == 4) = false := by rw [show (4 : Int) = ((4 : Nat) : Int) from rfl, show (8 : Int) = ((8 : Nat) : Int) from rfl, beq_mod]; simp; omega
  have r5 : ((op : Int) % 8 == 5) = false := by rw [show (5 : Int) = ((5 : Nat) : Int) from rfl, show (8 : Int) = ((8 : Nat) : Int) from rfl, beq_mod]; simp; omega
  have r6 : ((op : Int) % 8 == 6) = false := by rw [show (6 : Int) = ((6 : Nat) : Int) from rfl, show (8 : Int) = ((8 : Nat) : Int) from rfl, beq_mod]; simp; omega
  have r7 : ((op : Int) % 8 == 7) = false := by rw [show (7 : Int) = ((7 : Nat) : Int) from rfl, show (8 : Int) = ((8 : Nat) : Int) from rfl, beq_mod]; simp; omega
  have e0 : ((op : Int) == 24) = false := by rw [ha]; rfl
  have e1 : ((op : Int) == 113) = false := by rw [ha]; rfl
  have e2 : ((op : Int) == 105) = false := by rw [ha]; rfl
  have e3 : ((op : Int) == 97) = false := by rw [ha]; rfl
  have e4 : ((op : Int) == 121) = false := by rw [ha]; rfl
  have e5 : ((op : Int) == 114) = false := by rw [ha]; rfl
  have e6 : ((op : Int) == 106) = false := by rw [ha]; rfl
  have e7 : ((op : Int) == 98) = true := by rw [ha]; rfl
  generalize regB op = rB at *
  generalize codeN op = c at *
  clear h ha
  go_enter Tryz.func107, Tryz.ntmps107
  go_wp2_with fail
  go_returns
  exact ⟨rfl, (Fr.refl _ _).alloc _⟩
set_option maxRecDepth 100000 in
set_option maxHeartbeats 1000000 in
theorem form_122 (op : Nat) (h : op < 256) (inner : Bool) (ha : op = 122) (w : World) : Calls Tryz.prog 107 #[.int .u8 op, .bool inner] w fun e w' => e = .returned (.tuple #[usesV true false true true false, .bool true]) ∧ Fr No w w' := by
  have p1 := and240 op h
  have p2 := and8 op h
  have p3 := and8n op h
  have p7 := and7 op h
  have r4 : ((op : Int) % 8 == 4) = false := by rw [show (4 : Int) = ((4 : Nat) : Int) from rfl, show (8 : Int) = ((8 : Nat) : Int) from rfl, beq_mod]; simp; omega
  have r5 : ((op : Int) % 8 == 5) = false := by rw [show (5 : Int) = ((5 : Nat) : Int) from rfl, show (8 : Int) = ((8 : Nat) : Int) from rfl, beq_mod]; simp; omega
  have r6 : ((op : Int) % 8 == 6) = false := by rw [show (6 : Int) = ((6 : Nat) : Int) from rfl, show (8 : Int) = ((8 : Nat) : Int) from rfl, beq_mod]; simp; omega
  have r7 : ((op : Int) % 8 == 7) = false := by rw [show (7 : Int) = ((7 : Nat) : Int) from rfl, show (8 : Int) = ((8 : Nat) : Int) from rfl, beq_mod]; simp; omega
  have e0 : ((op : Int) == 24) = false := by rw [ha]; rfl
  have e1 : ((op : Int) == 113) = false := by rw [ha]; rfl
  have e2 : ((op : Int) == 105) = false := by rw [ha]; rfl
  have e3 : ((op : Int) == 97) = false := by rw [ha]; rfl
  have e4 : ((op : Int) == 121) = false := by rw [ha]; rfl
  have e5 : ((op : Int) == 114) = false := by rw [ha]; rfl
  have e6 : ((op : Int) == 106) = false := by rw [ha]; rfl
  have e7 : ((op : Int) == 98) = false := by rw [ha]; rfl
  have e8 : ((op : Int) == 122) = true := by rw [ha]; rfl
  generalize regB op = rB at *
  generalize codeN op = c at *
  clear h ha
  go_enter Tryz.func107, Tryz.ntmps107
  go_wp2_with fail
  go_returns
  exact ⟨rfl, (Fr.refl _ _).alloc _⟩
set_option maxRecDepth 100000 in
set_option maxHeartbeats 1000000 in
theorem form_115 (op : Nat) (h : op < 256) (inner : Bool) (ha : op = 115) (w : World) : Calls Tryz.prog 107 #[.int .u8 op, .bool inner] w fun e w' => e = .returned (.tuple #[usesV true true true false false, .bool true]) ∧ Fr No w w' := by
  have p1 := and240 op h
  have p2 := and8 op h
  have p3 := and8n op h
  have p7 := and7 op h
  have r4 : ((op : Int) % 8 == 4) = false := by rw [show (4 : Int) = ((4 : Nat) : Int) from rfl, show (8 : Int) = ((8 : Nat) : Int) from rfl, beq_mod]; simp; omega
  have r5 : ((op : Int) % 8 == 5) = false := by rw [show (5 : Int) = ((5 : Nat) : Int) from rfl, show (8 : Int) = ((8 : Nat) : Int) from rfl, beq_mod]; simp; omega
  have r6 : ((op : Int) % 8 == 6) = false := by rw [show (6 : Int) = ((6 : Nat) : Int) from rfl, show (8 : Int) = ((8 : Nat) : Int) from rfl, beq_mod]; simp; omega
  have r7 : ((op : Int) % 8 == 7) = false := by rw [show (7 : Int) = ((7 : Nat) : Int) from rfl, show (8 : Int) = ((8 : Nat) : Int) from rfl, beq_mod]; simp; omega
  have e0 : ((op : Int) == 24) = false := by rw [ha]; rfl
  have e1 : ((op : Int) == 113) = false := by rw [ha]; rfl
  have e2 : ((op : Int) == 105) = false := by rw [ha]; rfl
  have e3 : ((op : Int) == 97) = false := by rw [ha]; rfl
  have e4 : ((op : Int) == 121) = false := by rw [ha]; rfl
  have e5 : ((op : Int) == 114) = false := by rw [ha]; rfl
  have e6 : ((op : Int) == 106) = false := by rw [ha]; rfl
  have e7 : ((op : Int) == 98) = false := by rw [ha]; rfl
  have e8 : ((op : Int) == 122) = false := by rw [ha]; rfl
  have e9 : ((op : Int) == 115) = true := by rw [ha]; rfl
  generalize regB op = rB at *
  generalize codeN op = c at *
  clear h ha
  go_enter Tryz.func107, Tryz.ntmps107
  go_wp2_with fail
  go_returns
  exact ⟨rfl, (Fr.refl _ _).alloc _⟩
set_option maxRecDepth 100000 in
set_option maxHeartbeats 1000000 in
theorem form_107 (op : Nat) (h : op < 256) (inner : Bool) (ha : op = 107) (w : World) : Calls Tryz.prog 107 #[.int .u8 op, .bool inner] w fun e w' => e = .returned (.tuple #[usesV true true true false false, .bool true]) ∧ Fr No w w' := by
  have p1 := and240 op h
  have p2 := and8 op h
  have p3 := and8n op h
  have p7 := and7 op h
  have r4 : ((op : Int) % 8 == 4) = false := by rw [show (4 : Int) = ((4 : Nat) : Int) from rfl, show (8 : Int) = ((8 : Nat) : Int) from rfl, beq_mod]; simp; omega
  have r5 : ((op : Int) % 8 == 5) = false := by rw [show (5 : Int) = ((5 : Nat) : Int) from rfl, show (8 : Int) = ((8 : Nat) : Int) from rfl, beq_mod]; simp; omega
  have r6 : ((op : Int) % 8 == 6) = false := by rw [show (6 : Int) = ((6 : Nat) : Int) from rfl, show (8 : Int) = ((8 : Nat) : Int) from rfl, beq_mod]; simp; omega
  have r7 : ((op : Int) % 8 == 7) = false := by rw [show (7 : Int) = ((7 : Nat) : Int) from rfl, show (8 : Int) = ((8 : Nat) : Int) from rfl, beq_mod]; simp; omega
  have e0 : ((op : Int) == 24) = false := by rw [ha]; rfl
  have e1 : ((op : Int) == 113) = false := by rw [ha]; rfl
  have e2 : ((op : Int) == 105) = false := by rw [ha]; rfl
  have e3 : ((op : Int) == 97) = false := by rw [ha]; rfl
  have e4 : ((op : Int) == 121) = false := by rw [ha]; rfl
  have e5 : ((op : Int) == 114) = false := by rw [ha]; rfl
  have e6 : ((op : Int) == 106) = false := by rw [ha]; rfl
  have e7 : ((op : Int) == 98) = false := by rw [ha]; rfl
  have e8 : ((op : Int) == 122) = false := by rw [ha]; rfl
  have e9 : ((op : Int) == 115) = false := by rw [ha]; rfl
  have e10 : ((op : Int) == 107) = true := by rw [ha]; rfl
  generalize regB op = rB at *
  generalize codeN op = c at *
  clear h ha
  go_enter Tryz.func107, Tryz.ntmps107
  go_wp2_with fail
  go_returns
  exact ⟨rfl, (Fr.refl _ _).alloc _⟩
set_option maxRecDepth 100000 in
set_option maxHeartbeats 1000000 in
theorem form_99 (op : Nat) (h : op < 256) (inner : Bool) (ha : op = 99) (w : World) : Calls Tryz.prog 107 #[.int .u8 op, .bool inner] w fun e w' => e = .returned (.tuple #[usesV true true true false false, .bool true]) ∧ Fr No w w' := by
  have p1 := and240 op h
  have p2 := and8 op h
  have p3 := and8n op h
  have p7 := and7 op h
  have r4 : ((op : Int) % 8 == 4) = false := by rw [show (4 : Int) = ((4 : Nat) : Int) from rfl, show (8 : Int) = ((8 : Nat) : Int) from rfl, beq_mod]; simp; omega
  have r5 : ((op : Int) % 8 == 5) = false := by rw [show (5 : Int) = ((5 : Nat) : Int) from rfl, show (8 : Int) = ((8 : Nat) : Int) from rfl, beq_mod]; simp; omega
  have r6 : ((op : Int) % 8 == 6) = false := by rw [show (6 : Int) = ((6 : Nat) : Int) from rfl, show (8 : Int) = ((8 : Nat) : Int) from rfl, beq_mod]; simp; omega
  have r7 : ((op : Int) % 8 == 7) = false := by rw [show (7 : Int) = ((7 : Nat) : Int) from rfl, show (8 : Int) = ((8 : Nat) : Int) from rfl, beq_mod]; simp; omega
  have e0 : ((op : Int) == 24) = false := by rw [ha]; rfl
  have e1 : ((op : Int) == 113) = false := by rw [ha]; rfl
  have e2 : ((op : Int) == 105) = false := by rw [ha]; rfl
  have e3 : ((op : Int) == 97) = false := by rw [ha]; rfl
  have e4 : ((op : Int) == 121) = false := by rw [ha]; rfl
  have e5 : ((op : Int) == 114) = false := by rw [ha]; rfl
  have e6 : ((op : Int) == 106) = false := by rw [ha]; rfl
  have e7 : ((op : Int) == 98) = false := by rw [ha]; rfl
  have e8 : ((op : Int) == 122) = false := by rw [ha]; rfl
  have e9 : ((op : Int) == 115) = false := by rw [ha]; rfl
  have e10 : ((op : Int) == 107) = false := by rw [ha]; rfl
  have e11 : ((op : Int) == 99) = true := by rw [ha]; rfl
  generalize regB op = rB at *
  generalize codeN op = c at *
  clear h ha
  go_enter Tryz.func107, Tryz.ntmps107
  go_wp2_with fail
  go_returns
  exact ⟨rfl, (Fr.refl _ _).alloc _⟩
set_option maxRecDepth 100000 in
set_option maxHeartbeats 1000000 in
theorem form_123 (op : Nat) (h : op < 256) (inner : Bool) (ha : op = 123) (w : World) : Calls Tryz.prog 107 #[.int .u8 op, .bool inner] w fun e w' => e = .returned (.tuple #[usesV true true true false false, .bool true]) ∧ Fr No w w' := by
  have p1 := and240 op h
  have p2 := and8 op h
  have p3 := and8n op h
  have p7 := and7 op h
  have r4 : ((op : Int) % 8 == 4) = false := by rw [show (4 : Int) = ((4 : Nat) : Int) from rfl, show (8 : Int) = ((8 : Nat) : Int) from rfl, beq_mod]; simp; omega
  have r5 : ((op : Int) % 8 == 5) = false := by rw [show (5 : Int) = ((5 : Nat) : Int) from rfl, show (8 : Int) = ((8 : Nat) : Int) from rfl, beq_mod]; simp; omega
  have r6 : ((op : Int) % 8 == 6) = false := by rw [show (6 : Int) = ((6 : Nat) : Int) from rfl, show (8 : Int) = ((8 : Nat) : Int) from rfl, beq_mod]; simp; omega
  have r7 : ((op : Int) % 8 == 7) = false := by rw [show (7 : Int) = ((7 : Nat) : Int) from rfl, show (8 : Int) = ((8 : Nat) : Int) from rfl, beq_mod]; simp; omega
  have e0 : ((op : Int) == 24) = false := by rw [ha]; rfl
  have e1 : ((op : Int) == 113) = false := by rw [ha]; rfl
  have e2 : ((op : Int) == 105) = false := by rw [ha]; rfl
  have e3 : ((op : Int) == 97) = false := by rw [ha]; rfl
  have e4 : ((op : Int) == 121) = false := by rw [ha]; rfl
  have e5 : ((op : Int) == 114) = false := by rw [ha]; rfl
  have e6 : ((op : Int) == 106) = false := by rw [ha]; rfl
  have e7 : ((op : Int) == 98) = false := by rw [ha]; rfl
  have e8 : ((op : Int) == 122) = false := by rw [ha]; rfl
  have e9 : ((op : Int) == 115) = false := by rw [ha]; rfl
  have e10 : ((op : Int) == 107) = false := by rw [ha]; rfl
  have e11 : ((op : Int) == 99) = false := by rw [ha]; rfl
  have e12 : ((op : Int) == 123) = true := by rw [ha]; rfl
  generalize regB op = rB at *
  generalize codeN op = c at *
  clear h ha
  go_enter Tryz.func107, Tryz.ntmps107
  go_wp2_with fail
  go_returns
  exact ⟨rfl, (Fr.refl _ _).alloc _⟩
set_option maxRecDepth 100000 in
set_option maxHeartbeats 1000000 in
theorem form_194 (op : Nat) (h : op < 256) (inner : Bool) (ha : op = 194) (w : World) : Calls Tryz.prog 107 #[.int .u8 op, .bool inner] w fun e w' => e = .returned (.tuple #[usesV false false false false false, .bool inner]) ∧ Fr No w w' := by
  have p1 := and240 op h
  have p2 := and8 op h
  have p3 := and8n op h
  have p7 := and7 op h
  have r4 : ((op : Int) % 8 == 4) = false := by rw [show (4 : Int) = ((4 : Nat) : Int) from rfl, show (8 : Int) = ((8 : Nat) : Int) from rfl, beq_mod]; simp; omega
  have r5 : ((op : Int) % 8 == 5) = false := by rw [show (5 : Int) = ((5 : Nat) : Int) from rfl, show (8 : Int) = ((8 : Nat) : Int) from rfl, beq_mod]; simp; omega
  have r6 : ((op : Int) % 8 == 6) = false := by rw [show (6 : Int) = ((6 : Nat) : Int) from rfl, show (8 : Int) = ((8 : Nat) : Int) from rfl, beq_mod]; simp; omega
  have r7 : ((op : Int) % 8 == 7) = false := by rw [show (7 : Int) = ((7 : Nat) : Int) from rfl, show (8 : Int) = ((8 : Nat) : Int) from rfl, beq_mod]; simp; omega
  have e0 : ((op : Int) == 24) = false := by rw [ha]; rfl
  have e1 : ((op : Int) == 113) = false := by rw [ha]; rfl
  have e2 : ((op : Int) == 105) = false := by rw [ha]; rfl
  have e3 : ((op : Int) == 97) = false := by rw [ha]; rfl
  have e4 : ((op : Int) == 121) = false := by rw [ha]; rfl
  have e5 : ((op : Int) == 114) = false := by rw [ha]; rfl
  have e6 : ((op : Int) == 106) = false := by rw [ha]; rfl
  have e7 : ((op : Int) == 98) = false := by rw [ha]; rfl
  have e8 : ((op : Int) == 122) = false := by rw [ha]; rfl
  have e9 : ((op : Int) == 115) = false := by rw [ha]; rfl
  have e10 : ((op : Int) == 107) = false := by rw [ha]; rfl
  have e11 : ((op : Int) == 99) = false := by rw [ha]; rfl
  have e12 : ((op : Int) == 123) = false := by rw [ha]; rfl
  have e13 : ((op : Int) == 194) = true := by rw [ha]; rfl
  generalize regB op = rB at *
  generalize codeN op = c at *
  clear h ha
  go_enter Tryz.func107, Tryz.ntmps107
  go_wp2_with fail
  go_returns
  exact ⟨rfl, (Fr.refl _ _).alloc _⟩
set_option maxRecDepth 100000 in
set_option maxHeartbeats 1000000 in
theorem form_none (op : Nat) (h : op < 256) (inner : Bool) (ha : op % 8 ≠ 4 ∧ op % 8 ≠ 5 ∧ op % 8 ≠ 6 ∧ op % 8 ≠ 7) (hb : op ∉ [24, 113, 105, 97, 121, 114, 106, 98, 122, 115, 107, 99, 123, 194]) (w : World) : Calls Tryz.prog 107 #[.int .u8 op, .bool inner] w fun e w' => e = .returned (.tuple #[usesV false false false false false, .bool false]) ∧ Fr No w w' := by
  have p1 := and240 op h
  have p2 := and8 op h
  have p3 := and8n op h
  have p7 := and7 op h
  have r4 : ((op : Int) % 8 == 4) = false := by rw [show (4 : Int) = ((4 : Nat) : Int) from rfl, show (8 : Int) = ((8 : Nat) : Int) from rfl, beq_mod]; simp; omega
  have r5 : ((op : Int) % 8 == 5) = false := by rw [show (5 : Int) = ((5 : Nat) : Int) from rfl, show (8 : Int) = ((8 : Nat) : Int) from rfl, beq_mod]; simp; omega
  have r6 : ((op : Int) % 8 == 6) = false := by rw [show (6 : Int) = ((6 : Nat) : Int) from rfl, show (8 : Int) = ((8 : Nat) : Int) from rfl, beq_mod]; simp; omega
  have r7 : ((op : Int) % 8 == 7) = false := by rw [show (7 : Int) = ((7 : Nat) : Int) from rfl, show (8 : Int) = ((8 : Nat) : Int) from rfl, beq_mod]; simp; omega
  simp only [List.mem_cons, List.not_mem_nil, or_false, not_or] at hb
  have e0 : ((op : Int) == 24) = false := by simp; omega
  have e1 : ((op : Int) == 113) = false := by simp; omega
  have e2 : ((op : Int) == 105) = false := by simp; omega
  have e3 : ((op : Int) == 97) = false := by simp; omega
  have e4 : ((op : Int) == 121) = false := by simp; omega
  have e5 : ((op : Int) == 114) = false := by simp; omega
  have e6 : ((op : Int) == 106) = false := by simp; omega
  have e7 : ((op : Int) == 98) = false := by simp; omega
  have e8 : ((op : Int) == 122) = false := by simp; omega
  have e9 : ((op : Int) == 115) = false := by simp; omega
  have e10 : ((op : Int) == 107) = false := by simp; omega
  have e11 : ((op : Int) == 99) = false := by simp; omega
  have e12 : ((op : Int) == 123) = false := by simp; omega
  have e13 : ((op : Int) == 194) = false := by simp; omega
  generalize regB op = rB at *
  generalize codeN op = c at *
  clear h ha hb
  go_enter Tryz.func107, Tryz.ntmps107
  go_wp2_with fail
  go_returns
  exact ⟨rfl, (Fr.refl _ _).alloc _⟩
theorem form_any (op : Nat) (h : op < 256) (inner : Bool) (w : World) : Calls Tryz.prog 107 #[.int .u8 op, .bool inner] w fun e w' => e = .returned (asV (formB5 op inner)) ∧ Fr No w w' := by
  by_cases hl : op ∈ ([24, 113, 105, 97, 121, 114, 106, 98, 122, 115, 107, 99, 123, 194] : List Nat)
  · simp only [List.mem_cons, List.not_mem_nil, or_false] at hl
    rcases hl with rfl | rfl | rfl | rfl | rfl | rfl | rfl | rfl | rfl | rfl | rfl | rfl | rfl | rfl
    · exact form_24 24 (by omega) inner rfl w
    · exact form_113 113 (by omega) inner rfl w
    · exact form_105 105 (by omega) inner rfl w
    · exact form_97 97 (by omega) inner rfl w
    · exact form_121 121 (by omega) inner rfl w
    · exact form_114 114 (by omega) inner rfl w
    · exact form_106 106 (by omega) inner rfl w
    · exact form_98 98 (by omega) inner rfl w
    · exact form_122 122 (by omega) inner rfl w
    · exact form_115 115 (by omega) inner rfl w
    · exact form_107 107 (by omega) inner rfl w
    · exact form_99 99 (by omega) inner rfl w
    · exact form_123 123 (by omega) inner rfl w
    · exact form_194 194 (by omega) inner rfl w
  by_cases ha : op % 8 = 4 ∨ op % 8 = 7
  · have := form_arith op h inner ha w
    have e : (op % 8 == 4 || op % 8 == 7) = true := by simpa using ha
    unfold formB5
    rw [if_pos e]
    exact this
  by_cases hj : op % 8 = 5 ∨ op % 8 = 6
  · have := form_jump op h inner hj w
    have e0 : ¬ (op % 8 == 4 || op % 8 == 7) = true := by simpa using ha
    have e : (op % 8 == 5 || op % 8 == 6) = true := by simpa using hj
    unfold formB5
    rw [if_neg e0, if_pos e]
    exact this
  have := form_none op h inner (by omega) hl w
  have e : formB5 op inner = [false, false, false, false, false, false] := by
    simp only [List.mem_cons, List.not_mem_nil, or_false, not_or] at hl
    unfold formB5
    simp only [not_or] at ha hj
    simp [hl, ha, hj]
  rw [e]
  exact this
end Go.Proofs.YtakcdecljfmckaaGreatDoor
