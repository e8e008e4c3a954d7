/- firewallref03.line, without the program: the opcodes' classes, and what a hit says. No condition. -/
import Derived.Test.YthkdokkpiaaljaaGreatDoorLinesReadOwn2
set_option linter.all false
set_option linter.unusedVariables false
set_option linter.unusedSimpArgs false
namespace Go.Proofs.YthkdokkpiaaljaaGreatDoor
open Go.RowKit

/-- of an opcode: which of the four that have names of their own it is, and whether it loads, stores -/
def Cls4 (n : Nat) (a b c d l s r : Bool) : Prop := (n == 194) = a ∧ (n == 149) = b ∧ (n == 133) = c ∧ (n == 5) = d ∧ loadB n = l ∧ storeB n = s ∧ storeRB n = r
instance (n : Nat) (a b c d l s r : Bool) : Decidable (Cls4 n a b c d l s r) := inferInstanceAs (Decidable (_ ∧ _))
theorem cls : ∀ n, n < 256 → decide (
    (Cls4 n true false false false false false false ∧ regB n = false ∧ arithB n = false ∧ jumpB n = false) ∨
    (Cls4 n false true false false false false false ∧ regB n = false ∧ arithB n = false ∧ jumpB n = true ∧ nameN n = []) ∨
    (Cls4 n false false true false false false false ∧ regB n = false ∧ arithB n = false ∧ jumpB n = true ∧ nameN n = []) ∨
    (Cls4 n false false false true false false false ∧ regB n = false ∧ arithB n = false ∧ jumpB n = true ∧ nameN n = []) ∨
    (Cls4 n false false false false true false false ∧ arithB n = false ∧ jumpB n = false) ∨
    (Cls4 n false false false false false true false ∧ arithB n = false ∧ jumpB n = false) ∨
    (Cls4 n false false false false false false true ∧ arithB n = false ∧ jumpB n = false) ∨
    (Cls4 n false false false false false false false ∧ regB n = true) ∨
    (Cls4 n false false false false false false false ∧ regB n = false ∧ arithB n = false ∧ jumpB n = false) ∨
    (Cls4 n false false false false false false false ∧ regB n = false ∧ arithB n = true ∧ nameN n = []) ∨
    (Cls4 n false false false false false false false ∧ regB n = false ∧ arithB n = false ∧ jumpB n = true ∧ nameN n = []) ∨
    (Cls4 n false false false false false false false ∧ regB n = false ∧ arithB n = true ∧ jumpB n = false ∧ nameN n ≠ []) ∨
    (Cls4 n false false false false false false false ∧ regB n = false ∧ arithB n = false ∧ jumpB n = true ∧ nameN n ≠ [])) = true := by decide +kernel

/-- how far the opcodes are tried -/
def NoHit (first : List UInt8) (n : Nat) : Prop := ∀ m, m < n → hitB first m = false
theorem NoHit.step {first : List UInt8} {n : Nat} (h : NoHit first n) (hn : hitB first n = false) : NoHit first (n + 1) := fun m hm => by
  rcases Nat.lt_or_ge m n with h1 | h1
  · exact h m h1
  · obtain rfl : m = n := by omega
    exact hn
theorem hit_none {first : List UInt8} {n : Nat} (h : table n = none) : hitB first n = false := by unfold hitB; rw [h]
theorem hit_some {first X : List UInt8} {n : Nat} {ks : List Kd} (h : table n = some (X, ks)) : hitB first n = (X == first) := by unfold hitB; rw [h]
theorem kinds_some {X : List UInt8} {n : Nat} {ks : List Kd} (h : table n = some (X, ks)) : kindsOf n = ks := by unfold kindsOf; rw [h]
theorem ldimm_no : ∀ n, n < 256 → hitB [108, 100, 105, 109, 109] n = false := by decide +kernel
theorem find_hit {first : List UInt8} {n : Nat} (h : NoHit first n) (hn : n < 256) (hh : hitB first n = true) : (List.range 256).find? (hitB first) = some n := by
  rw [List.find?_range_eq_some]
  exact ⟨hh, List.mem_range.2 hn, fun j hj => by rw [h j hj]; rfl⟩
theorem find_none {first : List UInt8} (h : NoHit first 256) : (List.range 256).find? (hitB first) = none := by
  rw [List.find?_range_eq_none]
  exact fun j hj => by rw [h j hj]; rfl
/-- a line whose first word is none of the three -/
theorem line_hit {first : List UInt8} {rest : List (List UInt8)} {n : Nat} {X : List UInt8} {ks : List Kd} (h1 : first ≠ [114, 97, 119]) (h3 : first ≠ [108, 100, 109, 97, 112]) (h : NoHit first n) (hn : n < 256) (ht : table n = some (X, ks)) (hx : X = first) :
    lineW (first :: rest) = (fieldsI ⟨n, 0, 0, 0, 0⟩ ks rest).map fun i => [i] := by
  have hh : hitB first n = true := by rw [hit_some ht, hx]; exact beq_self_eq_true _
  have h2 : first ≠ [108, 100, 105, 109, 109] := fun e => by rw [e, ldimm_no n hn] at hh; cases hh
  show (if first = [114, 97, 119] then _ else if first = [108, 100, 105, 109, 109] then _ else if first = [108, 100, 109, 97, 112] then _ else match (List.range 256).find? (hitB first) with | none => none | some op => (fieldsI ⟨op, 0, 0, 0, 0⟩ (kindsOf op) rest).map fun i => [i]) = _
  rw [if_neg h1, if_neg h2, if_neg h3, find_hit h hn hh]
  show (fieldsI ⟨n, 0, 0, 0, 0⟩ (kindsOf n) rest).map _ = _
  rw [kinds_some ht]
theorem line_miss {first : List UInt8} {rest : List (List UInt8)} (h1 : first ≠ [114, 97, 119]) (h2 : first = [108, 100, 105, 109, 109] → rest.length ≠ 2) (h3 : first ≠ [108, 100, 109, 97, 112]) (h : NoHit first 256) : lineW (first :: rest) = none := by
  show (if first = [114, 97, 119] then _ else if first = [108, 100, 105, 109, 109] then _ else if first = [108, 100, 109, 97, 112] then _ else match (List.range 256).find? (hitB first) with | none => none | some op => (fieldsI ⟨op, 0, 0, 0, 0⟩ (kindsOf op) rest).map fun i => [i]) = none
  rw [if_neg h1, if_neg h3, find_none h]
  by_cases e : first = [108, 100, 105, 109, 109]
  · rw [if_pos e]
    have := h2 e
    match rest, this with
    | [], _ => rfl
    | [_], _ => rfl
    | [_, _], h => exact absurd rfl h
    | _ :: _ :: _ :: _, _ => rfl
  · rw [if_neg e]
def ldimmD (rest : List (List UInt8)) : Option (List Ins) := match rest with
  | [a, b] => (regW a).bind fun r => (parseI b 0 18446744073709551615).map fun n => [⟨24, r, 0, 0, s32 (n.toNat % 4294967296)⟩, ⟨0, 0, 0, 0, s32 (n.toNat / 4294967296)⟩]
  | _ => none
theorem lineW_cons (first : List UInt8) (rest : List (List UInt8)) : lineW (first :: rest) = if first = [114, 97, 119] then rawD rest else if first = [108, 100, 105, 109, 109] then ldimmD rest else if first = [108, 100, 109, 97, 112] then (fieldsI ⟨24, 0, 1, 0, 0⟩ [.d, .v] rest).map (fun i => [i, ⟨0, 0, 0, 0, 0⟩]) else match (List.range 256).find? (hitB first) with
      | none => none
      | some op => (fieldsI ⟨op, 0, 0, 0, 0⟩ (kindsOf op) rest).map fun i => [i] := rfl
theorem line_raw (rest : List (List UInt8)) : lineW ([114, 97, 119] :: rest) = rawD rest := by
  rw [lineW_cons, if_pos rfl]
theorem line_ldmap (rest : List (List UInt8)) : lineW ([108, 100, 109, 97, 112] :: rest) = (fieldsI ⟨24, 0, 1, 0, 0⟩ [.d, .v] rest).map fun i => [i, ⟨0, 0, 0, 0, 0⟩] := by
  rw [lineW_cons, if_neg (by decide), if_neg (by decide), if_pos rfl]
theorem line_ldimm (a b : List UInt8) : lineW [[108, 100, 105, 109, 109], a, b] = ldimmD [a, b] := by
  rw [lineW_cons, if_neg (by decide), if_pos rfl]

/-! ### the table by classes -/
theorem ne_of_b {n m : Nat} (h : (n == m) = false) : n ≠ m := by simpa using h
theorem tab_194 {n : Nat} (h : (n == 194) = true) : table n = some ([110, 111, 115, 112, 101, 99], []) := by rw [beq_iff_eq] at h; subst h; rfl
theorem tab_149 {n : Nat} (h : (n == 149) = true) : table n = some ([101, 120, 105, 116], []) := by rw [beq_iff_eq] at h; subst h; rfl
theorem tab_133 {n : Nat} (h : (n == 133) = true) : table n = some ([99, 97, 108, 108], [.v]) := by rw [beq_iff_eq] at h; subst h; rfl
theorem tab_5 {n : Nat} (h : (n == 5) = true) : table n = some ([106, 97], [.o]) := by rw [beq_iff_eq] at h; subst h; rfl
theorem tab_ld {n : Nat} {l s r : Bool} (h : Cls4 n false false false false l s r) (hl : l = true) : table n = some ([108, 100, 120] ++ decN (sizeN n), [.d, .s, .o]) := by
  obtain ⟨h1, h2, h3, h4, h5, _, _⟩ := h
  subst hl
  unfold table
  rw [if_neg (ne_of_b h1), if_neg (ne_of_b h2), if_neg (ne_of_b h3), if_neg (ne_of_b h4), if_pos h5]
theorem tab_st {n : Nat} (h : Cls4 n false false false false false true false) : table n = some ([115, 116] ++ decN (sizeN n), [.d, .o, .v]) := by
  obtain ⟨h1, h2, h3, h4, h5, h6, _⟩ := h
  unfold table
  rw [if_neg (ne_of_b h1), if_neg (ne_of_b h2), if_neg (ne_of_b h3), if_neg (ne_of_b h4), if_neg (by rw [h5]; decide), if_pos h6]
theorem tab_stx {n : Nat} (h : Cls4 n false false false false false false true) : table n = some ([115, 116, 120] ++ decN (sizeN n), [.d, .o, .s]) := by
  obtain ⟨h1, h2, h3, h4, h5, h6, h7⟩ := h
  unfold table
  rw [if_neg (ne_of_b h1), if_neg (ne_of_b h2), if_neg (ne_of_b h3), if_neg (ne_of_b h4), if_neg (by rw [h5]; decide), if_neg (by rw [h6]; decide), if_pos h7]
theorem tab_rest {n : Nat} (h : Cls4 n false false false false false false false) : table n = if regB n || !(arithB n || jumpB n) || nameN n == [] then none else some (nameN n ++ widthN n, if jumpB n then [.d, .e, .o] else if codeN n = 128 then [.d] else [.d, .e]) := by
  obtain ⟨h1, h2, h3, h4, h5, h6, h7⟩ := h
  unfold table
  rw [if_neg (ne_of_b h1), if_neg (ne_of_b h2), if_neg (ne_of_b h3), if_neg (ne_of_b h4), if_neg (by rw [h5]; decide), if_neg (by rw [h6]; decide), if_neg (by rw [h7]; decide)]
theorem tab_reg {n : Nat} (h : Cls4 n false false false false false false false) (hg : regB n = true) : table n = none := by rw [tab_rest h, hg]; rfl
theorem tab_noaj {n : Nat} (h : Cls4 n false false false false false false false) (ha : arithB n = false) (hj : jumpB n = false) : table n = none := by rw [tab_rest h, ha, hj]; simp
theorem tab_nil {n : Nat} (h : Cls4 n false false false false false false false) (hm : nameN n = []) : table n = none := by rw [tab_rest h, hm]; simp
theorem tab_arith {n : Nat} (h : Cls4 n false false false false false false false) (hg : regB n = false) (ha : arithB n = true) (hj : jumpB n = false) (hm : nameN n ≠ []) : table n = some (nameN n ++ widthN n, if codeN n = 128 then [.d] else [.d, .e]) := by
  rw [tab_rest h, hg, ha, hj]
  have : (nameN n == []) = false := by simpa using hm
  rw [this]
  rfl
theorem tab_jump {n : Nat} (h : Cls4 n false false false false false false false) (hg : regB n = false) (ha : arithB n = false) (hj : jumpB n = true) (hm : nameN n ≠ []) : table n = some (nameN n ++ widthN n, [.d, .e, .o]) := by
  rw [tab_rest h, hg, ha, hj]
  have : (nameN n == []) = false := by simpa using hm
  rw [this]
  rfl
end Go.Proofs.YthkdokkpiaaljaaGreatDoor
