/- firewallref02: what an opcode is. Regions of bytes: what a memory is, without the program; and how it stands in a world. -/
import Derived.Test.YtakcdecljfmckaaGreatDoorCore1
set_option linter.all false
set_option linter.unusedVariables false
set_option linter.unusedSimpArgs false
namespace Go.Proofs.YtakcdecljfmckaaGreatDoor
open Go.RowKit

theorem beq_nat (a b : Nat) : ((a : Int) == (b : Int)) = (a == b) := by
  rw [Bool.eq_iff_iff]; simp; omega
theorem beq_mod (a k c : Nat) : (((a : Int) % (k : Int)) == (c : Int)) = (a % k == c) := by
  rw [← beq_nat]; rfl

set_option maxRecDepth 100000 in
theorem arith_any (op : Nat) (h : op < 256) (w : World) : Calls Tryz.prog 111 #[.int .u8 op] w fun e w' => e = .returned (.bool (arithB op)) ∧ w = w' := by
  have q1 : ((op : Int) % 8 == 4) = (op % 8 == 4) := beq_mod op 8 4
  have q2 : ((op : Int) % 8 == 7) = (op % 8 == 7) := beq_mod op 8 7
  unfold arithB
  generalize (op % 8 == 4) = b1 at *
  generalize (op % 8 == 7) = b2 at *
  clear h
  cases b1
  all_goals go_enter Tryz.func111, Tryz.ntmps111
  all_goals go_wp2_with fail
  all_goals go_ret
  all_goals exact ⟨rfl, rfl⟩
set_option maxRecDepth 100000 in
theorem jump_any (op : Nat) (h : op < 256) (w : World) : Calls Tryz.prog 82 #[.int .u8 op] w fun e w' => e = .returned (.bool (jumpB op)) ∧ w = w' := by
  have q1 : ((op : Int) % 8 == 5) = (op % 8 == 5) := beq_mod op 8 5
  have q2 : ((op : Int) % 8 == 6) = (op % 8 == 6) := beq_mod op 8 6
  unfold jumpB
  generalize (op % 8 == 5) = b1 at *
  generalize (op % 8 == 6) = b2 at *
  clear h
  cases b1
  all_goals go_enter Tryz.func82, Tryz.ntmps82
  all_goals go_wp2_with fail
  all_goals go_ret
  all_goals exact ⟨rfl, rfl⟩
set_option maxRecDepth 100000 in
theorem code_any (op : Nat) (h : op < 256) (w : World) : Calls Tryz.prog 83 #[.int .u8 op] w fun e w' => e = .returned (.int .i64 (codeN op)) ∧ w = w' := by
  have f1 : IntKind.i64.wrap (op : Int) = op := IntWalk.i64_in _ (by omega)
  have f2 : (op : Int).tdiv 16 = ((op / 16 : Nat) : Int) := by rw [Int.tdiv_eq_ediv_of_nonneg (by omega)]; omega
  have f2' : (op : Int) / 16 = ((op / 16 : Nat) : Int) := by omega
  have f3 : IntKind.i64.wrap (((op / 16 : Nat) : Int)) = ((op / 16 : Nat) : Int) := IntWalk.i64_in _ (by omega)
  have f4 : IntKind.i64.wrap (((op / 16 : Nat) : Int) * 16) = ((op / 16 : Nat) : Int) * 16 := IntWalk.i64_in _ (by omega)
  have e : ((codeN op : Nat) : Int) = ((op / 16 : Nat) : Int) * 16 := by unfold codeN; omega
  rw [e]
  generalize op / 16 = k at *
  clear h e
  go_enter Tryz.func83, Tryz.ntmps83
  go_wp2_with fail
  go_ret
  exact ⟨rfl, rfl⟩
set_option maxRecDepth 100000 in
theorem regb_any (op : Nat) (h : op < 256) (w : World) : Calls Tryz.prog 116 #[.int .u8 op] w fun e w' => e = .returned (.bool (regB op)) ∧ w = w' := by
  have f2 : (op : Int).tdiv 8 = ((op / 8 : Nat) : Int) := by rw [Int.tdiv_eq_ediv_of_nonneg (by omega)]; omega
  have f2' : (op : Int) / 8 = ((op / 8 : Nat) : Int) := by omega
  have q : (((op / 8 : Nat) : Int) % 2 == 1) = (op / 8 % 2 == 1) := beq_mod (op / 8) 2 1
  unfold regB
  generalize (op / 8 % 2 == 1) = b at *
  generalize op / 8 = k at *
  clear h
  go_enter Tryz.func116, Tryz.ntmps116
  go_wp2_with fail
  go_ret
  exact ⟨rfl, rfl⟩
set_option maxRecDepth 100000 in
theorem load_any (op : Nat) (h : op < 256) (w : World) : Calls Tryz.prog 112 #[.int .u8 op] w fun e w' => e = .returned (.bool (loadB op)) ∧ w = w' := by
  have q1 : ((op : Int) == 113) = (op == 113) := beq_nat op 113
  have q2 : ((op : Int) == 105) = (op == 105) := beq_nat op 105
  have q3 : ((op : Int) == 97) = (op == 97) := beq_nat op 97
  have q4 : ((op : Int) == 121) = (op == 121) := beq_nat op 121
  unfold loadB
  generalize (op == 113) = b1 at *
  generalize (op == 105) = b2 at *
  generalize (op == 97) = b3 at *
  generalize (op == 121) = b4 at *
  clear h
  cases b1 <;> cases b2 <;> cases b3
  all_goals go_enter Tryz.func112, Tryz.ntmps112
  all_goals go_wp2_with fail
  all_goals go_ret
  all_goals exact ⟨rfl, rfl⟩
set_option maxRecDepth 100000 in
theorem store_any (op : Nat) (h : op < 256) (w : World) : Calls Tryz.prog 114 #[.int .u8 op] w fun e w' => e = .returned (.bool (storeB op)) ∧ w = w' := by
  have q1 : ((op : Int) == 114) = (op == 114) := beq_nat op 114
  have q2 : ((op : Int) == 106) = (op == 106) := beq_nat op 106
  have q3 : ((op : Int) == 98) = (op == 98) := beq_nat op 98
  have q4 : ((op : Int) == 122) = (op == 122) := beq_nat op 122
  unfold storeB
  generalize (op == 114) = b1 at *
  generalize (op == 106) = b2 at *
  generalize (op == 98) = b3 at *
  generalize (op == 122) = b4 at *
  clear h
  cases b1 <;> cases b2 <;> cases b3
  all_goals go_enter Tryz.func114, Tryz.ntmps114
  all_goals go_wp2_with fail
  all_goals go_ret
  all_goals exact ⟨rfl, rfl⟩
set_option maxRecDepth 100000 in
theorem storer_any (op : Nat) (h : op < 256) (w : World) : Calls Tryz.prog 115 #[.int .u8 op] w fun e w' => e = .returned (.bool (storeRB op)) ∧ w = w' := by
  have q1 : ((op : Int) == 115) = (op == 115) := beq_nat op 115
  have q2 : ((op : Int) == 107) = (op == 107) := beq_nat op 107
  have q3 : ((op : Int) == 99) = (op == 99) := beq_nat op 99
  have q4 : ((op : Int) == 123) = (op == 123) := beq_nat op 123
  unfold storeRB
  generalize (op == 115) = b1 at *
  generalize (op == 107) = b2 at *
  generalize (op == 99) = b3 at *
  generalize (op == 123) = b4 at *
  clear h
  cases b1 <;> cases b2 <;> cases b3
  all_goals go_enter Tryz.func115, Tryz.ntmps115
  all_goals go_wp2_with fail
  all_goals go_ret
  all_goals exact ⟨rfl, rfl⟩
set_option maxRecDepth 100000 in
theorem special_any (op : Nat) (h : op < 256) (w : World) : Calls Tryz.prog 113 #[.int .u8 op] w fun e w' => e = .returned (.bool (specB op)) ∧ w = w' := by
  have HJ : Hid (∀ W, Calls Tryz.prog 82 #[.int .u8 op] W fun e w' => e = .returned (.bool (jumpB op)) ∧ W = w') := fun W => jump_any op h W
  have HC : Hid (∀ W, Calls Tryz.prog 83 #[.int .u8 op] W fun e w' => e = .returned (.int .i64 (codeN op)) ∧ W = w') := fun W => code_any op h W
  have q1 : ((codeN op : Int) == 0) = (codeN op == 0) := beq_nat (codeN op) 0
  have q2 : ((codeN op : Int) == 128) = (codeN op == 128) := beq_nat (codeN op) 128
  have q3 : ((codeN op : Int) == 144) = (codeN op == 144) := beq_nat (codeN op) 144
  unfold specB
  generalize (codeN op == 0) = b1 at *
  generalize (codeN op == 128) = b2 at *
  generalize (codeN op == 144) = b3 at *
  generalize jumpB op = j at *
  generalize codeN op = k at *
  clear h
  cases j <;> cases b1 <;> cases b2
  all_goals go_enter Tryz.func113, Tryz.ntmps113
  all_goals go_wp2_with (first
    | (go_at_call 82; (with_reducible refine (HJ.out _).mono ?_); rintro e w1 ⟨rfl, rfl⟩)
    | (go_at_call 83; (with_reducible refine (HC.out _).mono ?_); rintro e w2 ⟨rfl, rfl⟩))
  all_goals go_ret
  all_goals exact ⟨rfl, rfl⟩
end Go.Proofs.YtakcdecljfmckaaGreatDoor

namespace Go.Proofs.YtakcdecljfmckaaGreatDoor
open Go.RowKit

/-- a region -/
structure Reg where
  base : Int
  data : List UInt8
  free : Bool

def Reg.len (r : Reg) : Int := r.data.length

/-- a region has n bytes from addr on -/
def Reg.has (r : Reg) (addr n : Int) : Bool := decide (r.base ≤ addr ∧ addr + n ≤ r.base + r.len)

theorem Reg.has_iff (r : Reg) (addr n : Int) : r.has addr n = true ↔ r.base ≤ addr ∧ addr + n ≤ r.base + (r.data.length : Int) := decide_eq_true_iff

def spot (m : List Reg) (addr n : Int) : Option Nat := m.findIdx? (·.has addr n)

structure Reg.ok (r : Reg) : Prop where
  low : 0 ≤ r.base
  some : 0 < r.data.length
  high : r.base + r.len ≤ 18446744073709551615
  small : r.data.length ≤ 9223372036854775807

structure WF (m : List Reg) : Prop where
  ok : ∀ r ∈ m, r.ok
  apart : m.Pairwise fun a b => a.base + a.len ≤ b.base
  many : m.length ≤ 4611686018427387904

/-- the place of the last region that begins at addr or ahead of it, counted from 1 -/
def cnt (m : List Reg) (addr : Int) : Nat := m.countP fun r => decide (r.base ≤ addr)

theorem WF.tail {r : Reg} {m : List Reg} (h : WF (r :: m)) : WF m := ⟨fun x hx => h.ok x (List.mem_cons_of_mem _ hx), (List.pairwise_cons.1 h.apart).2, by have := h.many; simp at this; omega⟩

theorem WF.later {r : Reg} {m : List Reg} (h : WF (r :: m)) : ∀ b ∈ m, r.base + r.len ≤ b.base := (List.pairwise_cons.1 h.apart).1

theorem len_pos {r : Reg} (h : r.ok) : 0 < r.len := by have := h.some; unfold Reg.len; omega

theorem cnt_zero_of_below {m : List Reg} {addr : Int} (h : ∀ b ∈ m, addr < b.base) : cnt m addr = 0 := by
  unfold cnt
  rw [List.countP_eq_zero]
  intro b hb
  have := h b hb
  simp; omega

/-- those below cnt begin at addr or ahead of it, the others do not -/
theorem cnt_spec {m : List Reg} (h : WF m) (addr : Int) : ∀ i (hi : i < m.length), (m[i].base ≤ addr ↔ i < cnt m addr) := by
  induction m with
  | nil => intro i hi; simp at hi
  | cons r m ih =>
    have hp := len_pos (h.ok r (by simp))
    intro i hi
    by_cases hr : r.base ≤ addr
    · have hc : cnt (r :: m) addr = cnt m addr + 1 := by simp [cnt, List.countP_cons, hr]
      rw [hc]
      cases i with
      | zero => simpa using hr
      | succ i => simpa using ih h.tail i (by simpa using hi)
    · have hz : cnt (r :: m) addr = 0 := cnt_zero_of_below (fun b hb => by
        rcases List.mem_cons.1 hb with rfl | hb
        · omega
        · have := h.later b hb; omega)
      rw [hz]
      cases i with
      | zero => simpa using hr
      | succ i =>
        have := h.later (m[i]'(by simpa using hi)) (List.getElem_mem _)
        simp; omega

theorem cnt_le (m : List Reg) (addr : Int) : cnt m addr ≤ m.length := List.countP_le_length

/-- bytes that are there are in the last region that begins at addr or ahead of it -/
theorem spot_eq {m : List Reg} (h : WF m) (addr n : Int) (hn : 1 ≤ n) :
    spot m addr n = if hc : 0 < cnt m addr then (if (m[cnt m addr - 1]'(by have := cnt_le m addr; omega)).has addr n then some (cnt m addr - 1) else none) else none := by
  have hs := cnt_spec h addr
  have key : ∀ i (hi : i < m.length), m[i].has addr n = true → i + 1 = cnt m addr := by
    intro i hi hh
    simp only [Reg.has, decide_eq_true_eq] at hh
    have h1 := (hs i hi).1 hh.1
    by_cases h2 : i + 1 < cnt m addr
    · have hi2 : i + 1 < m.length := by have := cnt_le m addr; omega
      have h3 := (hs (i + 1) hi2).2 h2
      have := List.pairwise_iff_getElem.1 h.apart i (i + 1) hi hi2 (by omega)
      omega
    · omega
  split
  · rename_i hc
    have hl := cnt_le m addr
    split
    · rename_i hh
      unfold spot
      rw [List.findIdx?_eq_some_iff_getElem]
      refine ⟨by omega, hh, fun j hj => ?_⟩
      intro hj2
      have := key j (by omega) hj2
      omega
    · rename_i hh
      unfold spot
      rw [List.findIdx?_eq_none_iff]
      intro x hx
      obtain ⟨i, hi, rfl⟩ := List.getElem_of_mem hx
      cases hb : m[i].has addr n with
      | false => rfl
      | true =>
        have := key i hi hb
        have e : cnt m addr - 1 = i := by omega
        exact absurd (by simp only [e]; exact hb) hh
  · rename_i hc
    unfold spot
    rw [List.findIdx?_eq_none_iff]
    intro x hx
    obtain ⟨i, hi, rfl⟩ := List.getElem_of_mem hx
    cases hb : m[i].has addr n with
    | false => rfl
    | true => have := key i hi hb; omega

theorem spot_lt {m : List Reg} {addr n : Int} {i : Nat} (h : spot m addr n = some i) : i < m.length :=
  (List.findIdx?_eq_some_iff_getElem.1 h).1

theorem spot_has {m : List Reg} {addr n : Int} {i : Nat} (h : spot m addr n = some i) : (m[i]'(spot_lt h)).has addr n = true :=
  (List.findIdx?_eq_some_iff_getElem.1 h).2.1

/-- the bytes that stand at an address -/
def Reg.cut (r : Reg) (addr n : Int) : List UInt8 := (r.data.drop (addr - r.base).toNat).take n.toNat

def mtext (m : List Reg) (addr n : Int) : List UInt8 × Int :=
  if n < 0 then ([], 2) else if n = 0 then ([], 0) else
  match spot m addr n with
  | none => ([], 70)
  | some i => (((m[i]?).map (·.cut addr n)).getD [], 0)

def sizeOk (n : Int) : Bool := n == 1 || n == 2 || n == 4 || n == 8

def mread (m : List Reg) (addr n : Int) : Nat × Int :=
  if sizeOk n then (leNum (mtext m addr n).1, (mtext m addr n).2) else (0, 2)

def Reg.put (r : Reg) (addr : Int) (bs : List UInt8) : Reg :=
  { r with data := r.data.take (addr - r.base).toNat ++ bs ++ r.data.drop ((addr - r.base).toNat + bs.length) }

def mput (m : List Reg) (addr : Int) (bs : List UInt8) : List Reg :=
  match spot m addr bs.length with
  | none => m
  | some i => m.modify i (·.put addr bs)

def mwrite (m : List Reg) (addr n : Int) (v : Nat) : List Reg × Int :=
  if sizeOk n then
    match spot m addr n with
    | none => (m, 70)
    | some i => if ((m[i]?).map (·.free)).getD false then (mput m addr (leBytes n.toNat v), 0) else (m, 71)
  else (m, 2)


/-! ### in a world -/

/-- a set of blocks that may have turned; all else stands as it stood -/
structure Fr (S : Nat → Prop) (w w' : World) : Prop where
  os : w'.os = w.os
  tape : w'.tape = w.tape
  output : w'.output = w.output
  size : w.heap.size ≤ w'.heap.size
  block : ∀ k, k < w.heap.size → ¬ S k → w'.heap[k]? = w.heap[k]?

def No : Nat → Prop := fun _ => False

theorem Fr.refl (S : Nat → Prop) (w : World) : Fr S w w := ⟨rfl, rfl, rfl, Nat.le_refl _, fun _ _ _ => rfl⟩
theorem Fr.trans {S : Nat → Prop} {a b c : World} (h : Fr S a b) (k : Fr S b c) : Fr S a c :=
  ⟨k.os.trans h.os, k.tape.trans h.tape, k.output.trans h.output, Nat.le_trans h.size k.size, fun i hi hs => (k.block i (Nat.lt_of_lt_of_le hi h.size) hs).trans (h.block i hi hs)⟩
theorem Fr.mono {S T : Nat → Prop} {a b : World} (h : Fr S a b) (hst : ∀ k, k < a.heap.size → S k → T k) : Fr T a b :=
  ⟨h.os, h.tape, h.output, h.size, fun i hi hs => h.block i hi (fun hh => hs (hst i hi hh))⟩
theorem Fr.of_below {S : Nat → Prop} {a b : World} (h : Below a.heap.size a b) : Fr S a b := ⟨h.os, h.tape, h.output, h.size, fun i hi _ => h.block i hi⟩
theorem Fr.below {a b : World} (h : Fr No a b) : Below a.heap.size a b := ⟨h.os, h.tape, h.output, h.size, fun i hi => h.block i hi id⟩
theorem Fr.alloc {S : Nat → Prop} {a w : World} (h : Fr S a w) (o : Obj) : Fr S a (w.alloc o) :=
  h.trans ⟨rfl, rfl, rfl, by simp, fun k hk _ => Below.heap_alloc _ _ _ hk⟩
theorem Fr.drew {S : Nat → Prop} {a w : World} (h : Fr S a w) : Fr S a w.drew := ⟨h.os, h.tape, h.output, h.size, h.block⟩
theorem Fr.drewN {S : Nat → Prop} {a w : World} (h : Fr S a w) (n : Nat) : Fr S a (w.drewN n) := ⟨h.os, h.tape, h.output, h.size, h.block⟩
theorem Fr.setCell {S : Nat → Prop} {a w : World} (h : Fr S a w) {p : Addr} (hp : a.heap.size ≤ p.block ∨ S p.block) (u : Value) : Fr S a (w.setCell p u) :=
  ⟨h.os, h.tape, h.output, by simpa using h.size, fun k hk hs => by
    rw [Below.heap_setCell _ _ _ _ (by rintro rfl; rcases hp with hp | hp; · omega
                                       · exact hs hp)]
    exact h.block k hk hs⟩
theorem Fr.cell {S : Nat → Prop} {w w' : World} (h : Fr S w w') {a : Addr} {v : Value} (hc : w.cell? a = some v) (hs : ¬ S a.block) : w'.cell? a = some v := by
  rw [World.cell?_of_block (w := w) (h.block a.block (World.block_lt_of_cell? w a hc) hs)]; exact hc
theorem Fr.frozen {S : Nat → Prop} {w w' : World} (h : Fr S w w') {a : Addr} {v : Value} (hc : w.cell? a = some v) (hs : ¬ S a.block) : w'.frozen? a = w.frozen? a :=
  World.frozen?_of_block (w := w) (h.block a.block (World.block_lt_of_cell? w a hc) hs)
theorem Fr.cells {S : Nat → Prop} {w w' : World} (h : Fr S w w') {b off : Nat} {vs : List Value} (hc : CellsAt w b off vs) (hs : ¬ S b) : CellsAt w' b off vs :=
  fun j v hj => h.cell (hc j v hj) hs

/-- cells that may be written -/
def Open (w : World) (b off n : Nat) : Prop := ∀ j, j < n → w.frozen? ⟨b, off + j, none⟩ = false

theorem Fr.opened {S : Nat → Prop} {w w' : World} (h : Fr S w w') {b off n : Nat} (hb : b < w.heap.size) (hc : Open w b off n) (hs : ¬ S b) : Open w' b off n :=
  fun j hj => by rw [World.frozen?_of_block (w := w) (h.block b hb hs)]; exact hc j hj

/-- a region, and where its bytes lie -/
structure HReg where
  r : Reg
  g : Nat
  cap : Nat

instance : Inhabited HReg := ⟨⟨⟨0, [], false⟩, 0, 0⟩⟩

def HReg.cells (x : HReg) : List Value := [.int .u64 x.r.base, .slice (some ⟨x.g, 0, none⟩) x.r.data.length x.cap, .bool x.r.free]

def flat (l : List HReg) : List Value := l.flatMap HReg.cells

theorem flat_length (l : List HReg) : (flat l).length = l.length * 3 := by
  induction l with
  | nil => rfl
  | cons x l ih => simp only [flat, List.flatMap_cons, List.length_append, HReg.cells, List.length_cons, List.length_nil] at *; omega

theorem flat_get (l : List HReg) (i c : Nat) (hi : i < l.length) (hc : c < 3) : (flat l)[i * 3 + c]? = some (l[i].cells[c]'(by simpa [HReg.cells] using hc)) := by
  induction l generalizing i with
  | nil => simp at hi
  | cons x l ih =>
    simp only [flat, List.flatMap_cons]
    cases i with
    | zero =>
      rw [List.getElem?_append_left (by simp [HReg.cells]; omega)]
      simp only [Nat.zero_mul, Nat.zero_add, List.getElem_cons_zero]
      exact List.getElem?_eq_getElem _
    | succ i =>
      rw [List.getElem?_append_right (by simp [HReg.cells]; omega)]
      have := ih i (by simpa using hi)
      simp only [flat] at this
      rw [show (i + 1) * 3 + c - x.cells.length = i * 3 + c by simp [HReg.cells]; omega, this]
      simp

/-- a region's bytes stand in its own block, and may be written there -/
structure HReg.here (w : World) (x : HReg) : Prop where
  bytes : CellsAt w x.g 0 (u8s x.r.data)
  opened : Open w x.g 0 x.r.data.length
  cap : x.r.data.length ≤ x.cap

/-- the list of regions stands at a slice's value -/
def ListAt (w : World) (v : Value) (l : List HReg) : Prop :=
  (l = [] ∧ v = .slice none 0 0) ∨ ∃ bl cap, v = .slice (some ⟨bl, 0, none⟩) l.length cap ∧ bl < w.heap.size ∧ CellsAt w bl 0 (flat l) ∧ Open w bl 0 (l.length * 3) ∧ ∀ x ∈ l, x.g ≠ bl

/-- a memory behind a pointer to block b: v, the list of its regions, stands as l says; all its blocks are of S -/
structure MemL (w : World) (b : Nat) (v : Value) (l : List HReg) (S : Nat → Prop) : Prop where
  wf : WF (l.map (·.r))
  made : w.cell? ⟨b, 0, none⟩ = some (.bool true)
  cell : w.cell? ⟨b, 1, none⟩ = some v
  list : ListAt w v l
  here : ∀ x ∈ l, x.here w
  ne : ∀ x ∈ l, x.g ≠ b
  inS : ∀ x ∈ l, S x.g
  nodup : (l.map (·.g)).Nodup
  vne : v.ownBlock ≠ some b
  vS : ∀ k, v.ownBlock = some k → S k
  own : S b

def MemAt (w : World) (b : Nat) (m : List Reg) (S : Nat → Prop) : Prop := ∃ v l, l.map (·.r) = m ∧ MemL w b v l S

theorem HReg.here.fr {S : Nat → Prop} {w w' : World} {x : HReg} (h : x.here w) (hf : Fr S w w') (hn : ¬ S x.g) (hp : 0 < x.r.data.length) : x.here w' := by
  have hb : x.g < w.heap.size := World.block_lt_of_cell? w ⟨x.g, 0 + 0, none⟩ (h.bytes 0 _ (List.getElem?_eq_getElem (by simpa using hp)))
  exact ⟨hf.cells h.bytes hn, hf.opened hb h.opened hn, h.cap⟩

theorem ListAt.fr {S : Nat → Prop} {w w' : World} {v : Value} {l : List HReg} (h : ListAt w v l) (hf : Fr S w w') (hn : ∀ k, v.ownBlock = some k → ¬ S k) : ListAt w' v l := by
  rcases h with h | ⟨bl, cap, rfl, hlt, hc, ho, hne⟩
  · exact .inl h
  · have := hn bl rfl
    exact .inr ⟨bl, cap, rfl, by have := hf.size; omega, hf.cells hc this, hf.opened hlt ho this, hne⟩

/-- a memory stays where only other blocks turn -/
theorem MemL.fr {S T : Nat → Prop} {w w' : World} {b : Nat} {v : Value} {l : List HReg} (h : MemL w b v l S) (hf : Fr T w w') (hn : ∀ k, S k → ¬ T k) : MemL w' b v l S where
  wf := h.wf
  made := hf.cell h.made (hn _ h.own)
  cell := hf.cell h.cell (hn _ h.own)
  list := h.list.fr hf fun k hk => hn k (h.vS k hk)
  here := fun x hx => (h.here x hx).fr hf (hn _ (h.inS x hx)) (h.wf.ok x.r (List.mem_map_of_mem hx)).some
  ne := h.ne
  inS := h.inS
  nodup := h.nodup
  vne := h.vne
  vS := h.vS
  own := h.own

theorem MemAt.fr {S T : Nat → Prop} {w w' : World} {b : Nat} {m : List Reg} (h : MemAt w b m S) (hf : Fr T w w') (hn : ∀ k, S k → ¬ T k) : MemAt w' b m S := by
  obtain ⟨v, l, e, h⟩ := h
  exact ⟨v, l, e, h.fr hf hn⟩

theorem MemL.wide {S T : Nat → Prop} {w : World} {b : Nat} {v : Value} {l : List HReg} (h : MemL w b v l S) (hn : ∀ k, S k → T k) : MemL w b v l T :=
  ⟨h.wf, h.made, h.cell, h.list, h.here, h.ne, fun x hx => hn _ (h.inS x hx), h.nodup, h.vne, fun k hk => hn _ (h.vS k hk), hn _ h.own⟩

theorem MemL.lt {S : Nat → Prop} {w : World} {b : Nat} {v : Value} {l : List HReg} (h : MemL w b v l S) : b < w.heap.size := World.block_lt_of_cell? w _ h.made

/-- the cells of the region i -/
theorem ListAt.reg {w : World} {v : Value} {l : List HReg} (h : ListAt w v l) (i : Nat) (hi : i < l.length) :
    ∃ bl cap, v = .slice (some ⟨bl, 0, none⟩) l.length cap ∧ bl < w.heap.size ∧ w.cell? ⟨bl, i * 3, none⟩ = some (.int .u64 l[i].r.base) ∧
      w.cell? ⟨bl, i * 3 + 1, none⟩ = some (.slice (some ⟨l[i].g, 0, none⟩) l[i].r.data.length l[i].cap) ∧ w.cell? ⟨bl, i * 3 + 2, none⟩ = some (.bool l[i].r.free) := by
  rcases h with ⟨rfl, _⟩ | ⟨bl, cap, rfl, hlt, hc, ho, hne⟩
  · simp at hi
  · refine ⟨bl, cap, rfl, hlt, ?_, ?_, ?_⟩
    · have := hc (i * 3 + 0) _ (flat_get l i 0 hi (by omega))
      simpa [HReg.cells] using this
    · have := hc (i * 3 + 1) _ (flat_get l i 1 hi (by omega))
      simpa [HReg.cells] using this
    · have := hc (i * 3 + 2) _ (flat_get l i 2 hi (by omega))
      simpa [HReg.cells] using this


theorem Fr.setCells {S : Nat → Prop} {a w : World} (h : Fr S a w) {b : Nat} (hp : a.heap.size ≤ b ∨ S b) (o : Nat) (vs : List Value) : Fr S a (w.setCells b o vs) := by
  obtain ⟨h1, h2, h3⟩ := rest_setCells b vs o w
  refine ⟨h1.trans h.os, h2.trans h.tape, h3.trans h.output, by rw [size_setCells]; exact h.size, fun k hk hs => ?_⟩
  rw [heap_setCells_other _ _ _ (by rintro rfl; rcases hp with hp | hp; · omega
                                    · exact hs hp)]
  exact h.block k hk hs

/-- bytes laid into bytes -/
theorem CellsAt.put {w : World} {g : Nat} {d bs : List UInt8} (h : CellsAt w g 0 (u8s d)) (f : Nat) (hf : f + bs.length ≤ d.length) :
    CellsAt (w.setCells g f (u8s bs)) g 0 (u8s (d.take f ++ bs ++ d.drop (f + bs.length))) := by
  intro j v hj
  rw [Nat.zero_add]
  simp only [u8s, List.getElem?_map, splice_get d bs f hf, Option.map_eq_some_iff] at hj
  obtain ⟨c, hc, rfl⟩ := hj
  have old : ∀ t x, d[t]? = some x → w.cell? ⟨g, t, none⟩ = some (.int .u8 (x.toNat : Int)) := fun t x ht => by
    have := h t (.int .u8 (x.toNat : Int)) (by simp [u8s, ht])
    rwa [Nat.zero_add] at this
  by_cases h1 : j < f
  · rw [if_pos h1] at hc
    rw [World.cell?_setCells_out _ _ _ _ _ (fun _ _ => Or.inl h1), old j c hc]
  · rw [if_neg h1] at hc
    by_cases h2 : j < f + bs.length
    · rw [if_pos h2] at hc
      obtain ⟨t, rfl⟩ : ∃ t, j = f + t := ⟨j - f, by omega⟩
      rw [Nat.add_sub_cancel_left] at hc
      have ht : t < (u8s bs).length := by simp; omega
      rw [World.cell?_setCells_in g (u8s bs) f w (fun t ht => by
        have ht' : f + t < d.length := by simp at ht; omega
        rw [old (f + t) _ (List.getElem?_eq_getElem ht')]; rfl) t ht]
      have ht' : t < bs.length := by simpa using ht
      rw [List.getElem?_eq_getElem ht'] at hc
      rw [u8s_get _ _ ht', Option.some.inj hc]
    · rw [if_neg h2] at hc
      rw [World.cell?_setCells_out _ _ _ _ _ (fun _ _ => Or.inr (by simp; omega)), old j c hc]


theorem WF.same {m m' : List Reg} (h : WF m) (hl : m'.length = m.length) (hs : ∀ i (h : i < m.length) (h' : i < m'.length), m'[i].base = m[i].base ∧ m'[i].data.length = m[i].data.length) : WF m' where
  ok := by
    intro r hr
    obtain ⟨i, hi, rfl⟩ := List.getElem_of_mem hr
    have o := h.ok _ (List.getElem_mem (show i < m.length by omega))
    obtain ⟨h1, h2⟩ := hs i (by omega) hi
    have o3 := o.high
    unfold Reg.len at o3
    exact ⟨by rw [h1]; exact o.low, by rw [h2]; exact o.some, by unfold Reg.len; rw [h1, h2]; exact o3, by rw [h2]; exact o.small⟩
  apart := by
    rw [List.pairwise_iff_getElem]
    intro i j hi hj hij
    obtain ⟨h1, h2⟩ := hs i (by omega) hi
    obtain ⟨h3, h4⟩ := hs j (by omega) hj
    have := List.pairwise_iff_getElem.1 h.apart i j (by omega) (by omega) hij
    unfold Reg.len at this ⊢
    rw [h1, h2, h3]
    exact this
  many := by rw [hl]; exact h.many

def HReg.lay (x : HReg) (f : Nat) (bs : List UInt8) : HReg := { x with r := { x.r with data := x.r.data.take f ++ bs ++ x.r.data.drop (f + bs.length) } }

theorem HReg.lay_length (x : HReg) (f : Nat) (bs : List UInt8) (hf : f + bs.length ≤ x.r.data.length) : (x.lay f bs).r.data.length = x.r.data.length := by
  simp [HReg.lay]; omega

theorem HReg.lay_cells (x : HReg) (f : Nat) (bs : List UInt8) (hf : f + bs.length ≤ x.r.data.length) : (x.lay f bs).cells = x.cells := by
  have := x.lay_length f bs hf
  unfold HReg.cells
  rw [this]
  rfl

theorem flat_set (l : List HReg) (i : Nat) (x y : HReg) (hx : l[i]? = some x) (hc : y.cells = x.cells) : flat (l.set i y) = flat l := by
  unfold flat
  rw [List.flatMap_def, List.flatMap_def, List.map_set, hc]
  congr 1
  apply List.ext_getElem?
  intro j
  rw [List.getElem?_set]
  split
  · rename_i hij; subst hij
    split
    · simp [hx]
    · rename_i h; simp at h; simp [List.getElem?_eq_none h]
  · rfl

/-- bytes laid into a region's block: the memory with those bytes -/
theorem MemL.put {S : Nat → Prop} {w : World} {b : Nat} {v : Value} {l : List HReg} (h : MemL w b v l S) (i : Nat) (x : HReg) (hx : l[i]? = some x) (f : Nat) (bs : List UInt8) (hf : f + bs.length ≤ x.r.data.length) :
    MemL (w.setCells x.g f (u8s bs)) b v (l.set i (x.lay f bs)) S := by
  obtain ⟨hi, hxe⟩ := List.getElem?_eq_some_iff.1 hx
  have hxm : x ∈ l := by rw [← hxe]; exact List.getElem_mem hi
  have hgs : (l.set i (x.lay f bs)).map (·.g) = l.map (·.g) := by
    rw [List.map_set]
    apply List.ext_getElem?
    intro j
    rw [List.getElem?_set]
    split
    · rename_i hij; subst hij
      simp [hi, hxe, HReg.lay]
    · rfl
  have hmem : ∀ y ∈ l.set i (x.lay f bs), y = x.lay f bs ∨ ∃ j, ∃ hj : j < l.length, j ≠ i ∧ y = l[j] := by
    intro y hy
    obtain ⟨j, hj, rfl⟩ := List.getElem_of_mem hy
    rw [List.getElem_set]
    split
    · exact .inl rfl
    · rename_i hne; exact .inr ⟨j, by simpa using hj, fun e => hne e.symm, rfl⟩
  have hneg : ∀ j (hj : j < l.length), j ≠ i → l[j].g ≠ x.g := by
    intro j hj hne he
    have hnd := h.nodup
    rw [List.nodup_iff_pairwise_ne, List.pairwise_iff_getElem] at hnd
    rcases Nat.lt_or_gt_of_ne hne with hlt | hlt
    · exact hnd j i (by simpa using hj) (by simpa using hi) hlt (by simpa [hxe] using he)
    · exact hnd i j (by simpa using hi) (by simpa using hj) hlt (by simpa [hxe] using he.symm)
  have out : ∀ a : Addr, a.block ≠ x.g → (w.setCells x.g f (u8s bs)).cell? a = w.cell? a := fun a ha => World.cell?_setCells_out _ _ _ _ _ (fun hb _ => absurd hb ha)
  refine ⟨?_, ?_, ?_, ?_, ?_, ?_, ?_, ?_, h.vne, h.vS, h.own⟩
  · refine h.wf.same (by simp) (fun j hj hj' => ?_)
    simp only [List.map_set, List.getElem_set, List.getElem_map]
    split
    · rename_i hij; subst hij
      rw [hxe]
      exact ⟨rfl, x.lay_length f bs hf⟩
    · exact ⟨rfl, rfl⟩
  · rw [out _ (fun e => h.ne x hxm e.symm)]; exact h.made
  · rw [out _ (fun e => h.ne x hxm e.symm)]; exact h.cell
  · rcases h.list with ⟨rfl, _⟩ | ⟨bl, cap, rfl, hlt, hc, ho, hne⟩
    · simp at hi
    · refine .inr ⟨bl, cap, by simp, by rw [size_setCells]; exact hlt, ?_, ?_, ?_⟩
      · rw [flat_set l i x _ hx (x.lay_cells f bs hf)]
        intro j u hj
        rw [out _ (fun e => hne x hxm e.symm)]
        exact hc j u hj
      · intro j hj
        rw [World.frozen?_setCells]
        exact ho j (by simpa using hj)
      · intro y hy
        rcases hmem y hy with rfl | ⟨j, hj, _, rfl⟩
        · exact hne x hxm
        · exact hne _ (List.getElem_mem hj)
  · intro y hy
    rcases hmem y hy with rfl | ⟨j, hj, hne, rfl⟩
    · have hh := h.here x hxm
      refine ⟨hh.bytes.put f hf, fun j hj => ?_, by rw [x.lay_length f bs hf]; exact hh.cap⟩
      rw [World.frozen?_setCells]
      exact hh.opened j (by rw [x.lay_length f bs hf] at hj; exact hj)
    · have hh := h.here _ (List.getElem_mem hj)
      refine ⟨fun t u ht => ?_, fun t ht => ?_, hh.cap⟩
      · rw [out _ (hneg j hj hne)]; exact hh.bytes t u ht
      · rw [World.frozen?_setCells]; exact hh.opened t ht
  · intro y hy
    rcases hmem y hy with rfl | ⟨j, hj, _, rfl⟩
    · exact h.ne x hxm
    · exact h.ne _ (List.getElem_mem hj)
  · intro y hy
    rcases hmem y hy with rfl | ⟨j, hj, _, rfl⟩
    · exact h.inS x hxm
    · exact h.inS _ (List.getElem_mem hj)
  · rw [hgs]; exact h.nodup


/-- behind the blocks of a world -/
def From (w : World) : Nat → Prop := fun k => w.heap.size ≤ k
theorem Fr.ours {w w' : World} (h : Fr (From w) w w') : Fr No w w' := ⟨h.os, h.tape, h.output, h.size, fun k hk _ => h.block k hk (fun hh => Nat.lt_irrefl _ (Nat.lt_of_lt_of_le hk hh))⟩
theorem Fr.any {S : Nat → Prop} {w w' : World} (h : Fr No w w') : Fr S w w' := h.mono (fun _ _ h => h.elim)

end Go.Proofs.YtakcdecljfmckaaGreatDoor
