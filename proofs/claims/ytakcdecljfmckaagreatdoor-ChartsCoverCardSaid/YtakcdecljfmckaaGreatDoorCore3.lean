/- What is shown of a program is read as that program. No condition. What is shown of a program is read as that program: a slot's line. No condition. -/
import Derived.Test.YtakcdecljfmckaaGreatDoorCore1
set_option linter.all false
set_option linter.unusedVariables false
set_option linter.unusedSimpArgs false
namespace Go.Proofs.YtakcdecljfmckaaGreatDoor
open Go.RowKit

/-! ### words -/
/-- a byte of a word -/
def cleanB (c : UInt8) : Bool := decide (32 < c ∧ c < 128 ∧ c ≠ 59)
def cleanW (w : List UInt8) : Bool := w.all cleanB && w != []

theorem cleanB_iff (c : UInt8) : cleanB c = true ↔ 32 < c ∧ c < 128 ∧ c ≠ 59 := decide_eq_true_iff
theorem cleanW_iff (w : List UInt8) : cleanW w = true ↔ (∀ c ∈ w, cleanB c = true) ∧ w ≠ [] := by
  unfold cleanW
  simp

theorem charN_clean {c : UInt8} {s : List UInt8} (h : c < 128) : charN (c :: s) = 1 := by
  simp [charN, lead, h]

theorem wordsF_succ (k : Nat) (s : List UInt8) (over : Bool) (word : List UInt8) (acc : List (List UInt8)) (hs : s ≠ []) (hc : charN s ≠ 0) : wordsF (k + 1) s over word acc =
    if over || s.take (charN s) == [59] || blankB (s.take (charN s)) then wordsF k (s.drop (charN s)) (over || s.take (charN s) == [59]) [] (pushW word acc)
      else wordsF k (s.drop (charN s)) false (word ++ s.take (charN s)) acc := by
  rw [wordsF, if_neg hs, if_neg hc]

/-- a word's bytes are gone through -/
theorem wordsF_word : ∀ (w : List UInt8) (k : Nat) (s word : List UInt8) (acc : List (List UInt8)), (∀ c ∈ w, cleanB c = true) → wordsF (w.length + k) (w ++ s) false word acc = wordsF k s false (word ++ w) acc
  | [], k, s, word, acc, _ => by simp
  | c :: w, k, s, word, acc, h => by
    obtain ⟨h1, h2, h3⟩ := (cleanB_iff c).1 (h c (by simp))
    have hc : charN (c :: (w ++ s)) = 1 := charN_clean h2
    have ih := wordsF_word w k s (word ++ [c]) acc (fun x hx => h x (List.mem_cons_of_mem _ hx))
    rw [List.length_cons, show w.length + 1 + k = (w.length + k) + 1 by omega]
    show wordsF ((w.length + k) + 1) (c :: (w ++ s)) false word acc = _
    have hb : blankB [c] = false := by
      unfold blankB
      have a1 : c ≠ 9 := by rintro rfl; revert h1; decide
      have a2 : c ≠ 13 := by rintro rfl; revert h1; decide
      have a3 : c ≠ 32 := by rintro rfl; revert h1; decide
      simp [a1, a2, a3]
    have h59 : ([c] == ([59] : List UInt8)) = false := by simpa using h3
    rw [wordsF_succ _ _ _ _ _ (by simp) (by rw [hc]; decide), hc]
    simp only [List.take_succ_cons, List.take_zero, List.drop_succ_cons, List.drop_zero, h59, hb, Bool.or_false, Bool.false_eq_true, if_false]
    rw [ih]
    simp

theorem wordsF_end (k : Nat) (over : Bool) (word : List UInt8) (acc : List (List UInt8)) : wordsF k [] over word acc = some (pushW word acc) := by
  cases k <;> simp [wordsF]

theorem wordsF_blank (k : Nat) (s word : List UInt8) (acc : List (List UInt8)) : wordsF (k + 1) (32 :: s) false word acc = wordsF k s false [] (pushW word acc) := by
  have hc : charN (32 :: s) = 1 := charN_clean (by decide)
  have e1 : (([32] : List UInt8) == [59]) = false := rfl
  have e2 : blankB [32] = true := rfl
  rw [wordsF_succ _ _ _ _ _ (by simp) (by rw [hc]; decide), hc]
  simp only [List.take_succ_cons, List.take_zero, List.drop_succ_cons, List.drop_zero, e1, e2, Bool.or_true, if_true, Bool.or_false]

theorem pushW_clean {w : List UInt8} (h : w ≠ []) (acc : List (List UInt8)) : pushW w acc = acc ++ [w] := if_neg h

theorem wordsF_join : ∀ (ws : List (List UInt8)) (k : Nat) (acc : List (List UInt8)), (∀ w ∈ ws, cleanW w = true) → ws ≠ [] → (joinW ws).length ≤ k → wordsF k (joinW ws) false [] acc = some (acc ++ ws)
  | [], _, _, _, h, _ => absurd rfl h
  | [w], k, acc, h, _, hk => by
    obtain ⟨h1, h2⟩ := (cleanW_iff w).1 (h w (by simp))
    have := wordsF_word w (k - w.length) [] [] acc h1
    simp only [joinW] at hk ⊢
    rw [List.append_nil, show w.length + (k - w.length) = k by omega] at this
    rw [this, wordsF_end, List.nil_append, pushW_clean h2]
  | w :: v :: ws, k, acc, h, _, hk => by
    obtain ⟨h1, h2⟩ := (cleanW_iff w).1 (h w (by simp))
    simp only [joinW, List.length_append, List.length_cons] at hk ⊢
    have := wordsF_word w (k - w.length) (32 :: joinW (v :: ws)) [] acc h1
    rw [show w.length + (k - w.length) = k by omega] at this
    rw [this, List.nil_append]
    obtain ⟨m, hm⟩ : ∃ m, k - w.length = m + 1 := ⟨k - w.length - 1, by omega⟩
    rw [hm, wordsF_blank, pushW_clean h2, wordsF_join (v :: ws) m (acc ++ [w]) (fun x hx => h x (List.mem_cons_of_mem _ hx)) (by simp) (by omega)]
    simp

theorem wordsL_join {ws : List (List UInt8)} (h : ∀ w ∈ ws, cleanW w = true) (h0 : ws ≠ []) : wordsL (joinW ws) = some ws := by
  unfold wordsL
  rw [wordsF_join ws _ [] h h0 (Nat.le_refl _)]
  rfl

/-! ### numerals -/
theorem digF_digits : ∀ (k n : Nat), ∀ c ∈ digF k n, 48 ≤ c ∧ c ≤ 57
  | 0, _, c, h => by simp [digF] at h
  | k + 1, n, c, h => by
    simp only [digF, List.mem_append, List.mem_singleton] at h
    rcases h with h | h
    · split at h
      · simp at h
      · exact digF_digits k _ c h
    · subst h
      have : n % 10 < 10 := Nat.mod_lt _ (by decide)
      generalize n % 10 = m at *
      match m, this with
      | 0, _ => decide
      | 1, _ => decide
      | 2, _ => decide
      | 3, _ => decide
      | 4, _ => decide
      | 5, _ => decide
      | 6, _ => decide
      | 7, _ => decide
      | 8, _ => decide
      | 9, _ => decide

theorem decN_ne (n : Nat) : decN n ≠ [] := by
  show digF 20 n ≠ []
  simp [digF]

theorem digV_app : ∀ (a b : List UInt8) (n m : Nat), digV a n = some m → digV (a ++ b) n = digV b m
  | [], b, n, m, h => by simp [digV] at h; subst h; rfl
  | c :: a, b, n, m, h => by
    simp only [digV, List.cons_append] at h ⊢
    split at h
    · cases h
    · rename_i h1
      rw [if_neg h1]
      split at h
      · cases h
      · rename_i h2
        rw [if_neg h2]
        exact digV_app a b _ m h

theorem digV_one (m d : Nat) (hd : d < 10) (h : m * 10 + d ≤ 18446744073709551615) : digV [UInt8.ofNat (48 + d)] m = some (m * 10 + d) := by
  have e : (UInt8.ofNat (48 + d)).toNat = 48 + d := by simp; omega
  have c1 : ¬ (UInt8.ofNat (48 + d) < 48 ∨ 57 < UInt8.ofNat (48 + d)) := by
    rw [UInt8.lt_iff_toNat_lt, UInt8.lt_iff_toNat_lt, e]
    show ¬ (48 + d < 48 ∨ 57 < 48 + d)
    omega
  have c2 : ¬ (18446744073709551615 - (48 + d - 48)) / 10 < m := by omega
  simp only [digV, if_neg c1, e, if_neg c2]
  rw [show 48 + d - 48 = d by omega]

theorem digV_digF : ∀ (k n : Nat), n < 10 ^ (k + 1) → n ≤ 18446744073709551615 → digV (digF (k + 1) n) 0 = some n
  | 0, n, h, hn => by
    have h : n < 10 := by simpa using h
    simp only [digF, h, if_true, List.nil_append, Nat.mod_eq_of_lt h]
    simpa using digV_one 0 n h (by omega)
  | k + 1, n, h, hn => by
    have hm : n % 10 < 10 := Nat.mod_lt _ (by decide)
    by_cases h10 : n < 10
    · simp only [digF, h10, if_true, List.nil_append, Nat.mod_eq_of_lt h10]
      simpa using digV_one 0 n h10 (by omega)
    · have ih := digV_digF k (n / 10) (by rw [Nat.pow_succ] at h; omega) (by omega)
      show digV ((if n < 10 then [] else digF (k + 1) (n / 10)) ++ [UInt8.ofNat (48 + n % 10)]) 0 = some n
      rw [if_neg h10, digV_app _ _ 0 _ ih, digV_one _ _ hm (by omega)]
      congr 1
      omega
theorem digL_dec {n : Nat} (h : n ≤ 18446744073709551615) : digL (decN n) = some n := by
  unfold digL
  rw [if_neg (decN_ne n)]
  exact digV_digF 19 n (by omega) h

theorem dec_head {n : Nat} {c : UInt8} (h : (decN n).head? = some c) : 48 ≤ c ∧ c ≤ 57 := digF_digits 20 n c (List.mem_of_head? h)
theorem dec_take3 (n : Nat) (h : (decN n).take 3 = [226, 136, 146]) : False := by
  have : (226 : UInt8) ∈ decN n := by
    have h1 : (226 : UInt8) ∈ (decN n).take 3 := by rw [h]; simp
    exact List.mem_of_mem_take h1
  have := digF_digits 20 n _ this
  revert this; decide

theorem numW_dec {n : Nat} (h : n ≤ 18446744073709551615) : numW (decN n) = some (false, n) := by
  unfold numW
  rw [if_neg (fun h => dec_take3 n h.2), if_neg (fun h => by have := dec_head h.2; revert this; decide), if_neg (fun h => by have := dec_head h.2; revert this; decide), digL_dec h]
  rfl
theorem dec_len (n : Nat) : 0 < (decN n).length := List.length_pos_iff.2 (decN_ne n)
theorem numW_minus {n : Nat} (h : n ≤ 18446744073709551615) : numW (45 :: decN n) = some (true, n) := by
  have hl := dec_len n
  unfold numW
  rw [if_neg (fun h => by have := h.2; simp at this), if_pos ⟨by simp; omega, rfl⟩]
  simp [digL_dec h]
theorem numW_plus {n : Nat} (h : n ≤ 18446744073709551615) : numW (43 :: decN n) = some (false, n) := by
  have hl := dec_len n
  unfold numW
  rw [if_neg (fun h => by have := h.2; simp at this), if_neg (fun h => by have := h.2; simp at this), if_pos ⟨by simp; omega, rfl⟩]
  simp [digL_dec h]

theorem parseI_itoa {n : Int} {lo hi : Nat} (h1 : -(lo : Int) ≤ n) (h2 : n ≤ hi) (hlo : lo ≤ 18446744073709551615) (hhi : hi ≤ 18446744073709551615) : parseI (itoaN n) lo hi = some n := by
  unfold itoaN
  split
  · rename_i h
    unfold parseI
    rw [numW_minus (by omega)]
    simp only
    rw [if_pos (by omega)]
    congr 1
    omega
  · rename_i h
    unfold parseI
    rw [numW_dec (by omega)]
    simp only
    rw [if_pos (by omega)]
    congr 1
    omega
theorem parseI_sign {n : Int} {lo hi : Nat} (h1 : -(lo : Int) ≤ n) (h2 : n ≤ hi) (hlo : lo ≤ 18446744073709551615) (hhi : hi ≤ 18446744073709551615) : parseI (signN n) lo hi = some n := by
  unfold signN
  split
  · exact parseI_itoa h1 h2 hlo hhi
  · rename_i h
    unfold parseI itoaN
    rw [if_neg h, numW_plus (by omega)]
    simp only
    rw [if_pos (by omega)]
    congr 1
    omega
theorem parseI_dec {n : Nat} (h : n ≤ 18446744073709551615) : parseI (decN n) 0 18446744073709551615 = some (n : Int) := by
  unfold parseI
  rw [numW_dec h]
  simp only
  rw [if_pos h]

theorem regW_reg {r : Nat} (h : r ≤ 10) : regW (regN r) = some r := by
  have : ∀ r, r < 11 → regW (regN r) = some r := by decide +kernel
  exact this r (by omega)
end Go.Proofs.YtakcdecljfmckaaGreatDoor

namespace Go.Proofs.YtakcdecljfmckaaGreatDoor
open Go.RowKit

structure Fits (i : Ins) : Prop where
  known : knownB i.op true = true
  dst : i.dst ≤ 10
  src : i.src ≤ 10
  nd : dstB i.op = false → i.dst = 0
  ns : srcB i.op = false → i.src = 0
  no : offB i.op = false → i.off = 0
  ni : immB i.op = false → i.imm = 0
  ref : i.op = 24 → i.src ≤ 1

theorem check_fits {i : Ins} (h : (checkI i true == 0) = true) : Fits i := by
  unfold checkI at h
  split at h
  · cases h
  · rename_i h1
    split at h
    · cases h
    · rename_i h2
      split at h
      · cases h
      · rename_i h3
        simp at h1 h2 h3
        obtain ⟨⟨⟨⟨a, b⟩, c⟩, d⟩, e⟩ := h3
        exact ⟨h1, by omega, by omega, a, b, c, d, e⟩

def codeT : Tok → Nat
  | .lit _ => 0
  | .rd => 1
  | .rs => 2
  | .imm => 3
  | .off => 4
  | .joff => 5
def codeK : Kd → Nat
  | .d => 1
  | .s => 2
  | .o => 3
  | .v => 4
  | .e => 5
theorem codeT_1 {t : Tok} (h : codeT t = 1) : t = .rd := by cases t <;> simp [codeT] at h ⊢
theorem codeT_2 {t : Tok} (h : codeT t = 2) : t = .rs := by cases t <;> simp [codeT] at h ⊢
theorem codeT_3 {t : Tok} (h : codeT t = 3) : t = .imm := by cases t <;> simp [codeT] at h ⊢
theorem codeT_4 {t : Tok} (h : codeT t = 4) : t = .off := by cases t <;> simp [codeT] at h ⊢
theorem codeT_5 {t : Tok} (h : codeT t = 5) : t = .joff := by cases t <;> simp [codeT] at h ⊢
theorem codeK_1 {t : Kd} (h : codeK t = 1) : t = .d := by cases t <;> simp [codeK] at h ⊢
theorem codeK_2 {t : Kd} (h : codeK t = 2) : t = .s := by cases t <;> simp [codeK] at h ⊢
theorem codeK_3 {t : Kd} (h : codeK t = 3) : t = .o := by cases t <;> simp [codeK] at h ⊢
theorem codeK_4 {t : Kd} (h : codeK t = 4) : t = .v := by cases t <;> simp [codeK] at h ⊢
theorem codeK_5 {t : Kd} (h : codeK t = 5) : t = .e := by cases t <;> simp [codeK] at h ⊢

/-- the opcode without FromReg, where it is one of two -/
def baseOp (op : Nat) : Nat := if (arithB op || condB op) && regB op then op - 8 else op

def shapes : List (List Nat × List Nat × Bool × Bool × Bool × Bool × Bool) :=
  [([], [], false, false, false, false, false), ([5], [3], false, false, true, false, false), ([3], [4], false, false, false, true, false), ([1, 2, 4], [1, 2, 3], true, true, true, false, false), ([1, 4, 3], [1, 3, 4], true, false, true, true, false), ([1, 4, 2], [1, 3, 2], true, true, true, false, false),
   ([1], [1], true, false, false, false, false), ([1, 2], [1, 5], true, true, false, false, true), ([1, 3], [1, 5], true, false, false, true, false), ([1, 2, 5], [1, 5, 3], true, true, true, false, true), ([1, 3, 5], [1, 5, 3], true, false, true, true, false)]

def opFacts (op : Nat) : Bool :=
  match toks op with
  | .lit w :: ts =>
    cleanW w && !(w == [114, 97, 119]) && !(w == [108, 100, 105, 109, 109]) && !(w == [108, 100, 109, 97, 112]) && ((List.range 256).find? (hitB w) == some (baseOp op)) &&
      (match table (baseOp op) with
        | some x => shapes.contains (ts.map codeT, x.2.map codeK, dstB op, srcB op, offB op, immB op, ((arithB op || condB op) && regB op))
        | none => false)
  | _ => false

theorem op_facts : ∀ op, op < 256 → knownB op true = true → op ≠ 24 → opFacts op = true := by decide +kernel

theorem map1 {f : Tok → Nat} {l : List Tok} {a : Nat} (h : l.map f = [a]) : ∃ x, l = [x] ∧ f x = a := by
  match l, h with
  | [x], h => exact ⟨x, rfl, by simpa using h⟩
theorem map2 {f : Tok → Nat} {l : List Tok} {a b : Nat} (h : l.map f = [a, b]) : ∃ x y, l = [x, y] ∧ f x = a ∧ f y = b := by
  match l, h with
  | [x, y], h => exact ⟨x, y, rfl, by simpa using h⟩
theorem map3 {f : Tok → Nat} {l : List Tok} {a b c : Nat} (h : l.map f = [a, b, c]) : ∃ x y z, l = [x, y, z] ∧ f x = a ∧ f y = b ∧ f z = c := by
  match l, h with
  | [x, y, z], h => exact ⟨x, y, z, rfl, by simpa using h⟩
theorem kmap1 {f : Kd → Nat} {l : List Kd} {a : Nat} (h : l.map f = [a]) : ∃ x, l = [x] ∧ f x = a := by
  match l, h with
  | [x], h => exact ⟨x, rfl, by simpa using h⟩
theorem kmap2 {f : Kd → Nat} {l : List Kd} {a b : Nat} (h : l.map f = [a, b]) : ∃ x y, l = [x, y] ∧ f x = a ∧ f y = b := by
  match l, h with
  | [x, y], h => exact ⟨x, y, rfl, by simpa using h⟩
theorem kmap3 {f : Kd → Nat} {l : List Kd} {a b c : Nat} (h : l.map f = [a, b, c]) : ∃ x y z, l = [x, y, z] ∧ f x = a ∧ f y = b ∧ f z = c := by
  match l, h with
  | [x, y, z], h => exact ⟨x, y, z, rfl, by simpa using h⟩

theorem regW_num {n : Int} : regW (itoaN n) = none := by
  unfold regW
  rw [List.find?_eq_none]
  intro r _
  have : (itoaN n).head? ≠ some 114 := by
    unfold itoaN
    split
    · simp
    · intro h; have := dec_head h; revert this; decide
  intro he
  have he : itoaN n = regN r := by simpa using he
  rw [he] at this
  exact this rfl

theorem clean_dig {c : UInt8} (h : 48 ≤ c ∧ c ≤ 57) : cleanB c = true := by
  rw [cleanB_iff]
  obtain ⟨h1, h2⟩ := h
  rw [UInt8.le_iff_toNat_le] at h1 h2
  refine ⟨?_, ?_, ?_⟩
  · rw [UInt8.lt_iff_toNat_lt]; exact Nat.lt_of_lt_of_le (by decide) h1
  · rw [UInt8.lt_iff_toNat_lt]; exact Nat.lt_of_le_of_lt h2 (by decide)
  · rintro rfl; revert h2; decide
theorem clean_dec (n : Nat) : cleanW (decN n) = true := (cleanW_iff _).2 ⟨fun c hc => clean_dig (digF_digits 20 n c hc), decN_ne n⟩
theorem clean_cons {c : UInt8} {w : List UInt8} (hc : cleanB c = true) (h : cleanW w = true) : cleanW (c :: w) = true :=
  (cleanW_iff _).2 ⟨fun x hx => by rcases List.mem_cons.1 hx with rfl | hx; exact hc; exact ((cleanW_iff _).1 h).1 x hx, by simp⟩
theorem clean_itoa (n : Int) : cleanW (itoaN n) = true := by
  unfold itoaN
  split
  · exact clean_cons (by decide) (clean_dec _)
  · exact clean_dec _
theorem clean_sign (n : Int) : cleanW (signN n) = true := by
  unfold signN
  split
  · exact clean_itoa _
  · exact clean_cons (by decide) (clean_itoa _)
theorem clean_reg (n : Nat) : cleanW (regN n) = true := clean_cons (by decide) (clean_dec _)

theorem base_neg {op : Nat} (h : ((arithB op || condB op) && regB op) = false) : baseOp op = op := by unfold baseOp; simp [h]
theorem base_pos {op : Nat} (h : ((arithB op || condB op) && regB op) = true) : baseOp op + 8 = op := by
  unfold baseOp
  rw [if_pos h]
  simp only [Bool.and_eq_true] at h
  have := h.2
  unfold regB at this
  simp at this
  omega

theorem fields_back (i : Ins) (hi : i.ok) (hf : Fits i) (h24 : i.op ≠ 24) : ∃ w ts ks, toks i.op = .lit w :: ts ∧ cleanW w = true ∧ w ≠ [114, 97, 119] ∧ w ≠ [108, 100, 105, 109, 109] ∧ w ≠ [108, 100, 109, 97, 112] ∧ (List.range 256).find? (hitB w) = some (baseOp i.op) ∧ kindsOf (baseOp i.op) = ks ∧
    fieldsI ⟨baseOp i.op, 0, 0, 0, 0⟩ ks (ts.map (Tok.show i)) = some i ∧ ∀ t ∈ ts, cleanW (Tok.show i t) = true := by
  have hfa := op_facts i.op hi.op hf.known h24
  unfold opFacts at hfa
  split at hfa
  · rename_i w ts htk
    simp only [Bool.and_eq_true, Bool.not_eq_true', beq_eq_false_iff_ne, beq_iff_eq] at hfa
    obtain ⟨⟨⟨⟨⟨h1, h2⟩, h3⟩, h4⟩, h5⟩, h6⟩ := hfa
    split at h6
    · rename_i x hx
      rw [List.contains_iff_mem] at h6
      have pd := regW_reg hf.dst
      have ps := regW_reg hf.src
      have po : parseI (itoaN i.off) 32768 32767 = some i.off := parseI_itoa hi.off.1 (by have := hi.off.2; omega) (by decide) (by decide)
      have pj : parseI (signN i.off) 32768 32767 = some i.off := parseI_sign hi.off.1 (by have := hi.off.2; omega) (by decide) (by decide)
      have pv : parseI (itoaN i.imm) 2147483648 2147483647 = some i.imm := parseI_itoa hi.imm.1 (by have := hi.imm.2; omega) (by decide) (by decide)
      have pe := regW_num (n := i.imm)
      refine ⟨w, ts, x.2, htk, h1, h2, h3, h4, h5, by unfold kindsOf; rw [hx], ?_⟩
      clear htk hx h1 h2 h3 h4 h5
      simp only [shapes, List.mem_cons, List.not_mem_nil, or_false, Prod.mk.injEq] at h6
      rcases h6 with h | h | h | h | h | h | h | h | h | h | h
      all_goals obtain ⟨g1, g2, g3, g4, g5, g6, g7⟩ := h
      · simp only [List.map_eq_nil_iff] at g1 g2
        subst g1
        rw [g2]
        have z1 := hf.nd g3; have z2 := hf.ns g4; have z3 := hf.no g5; have z4 := hf.ni g6; have z5 := base_neg g7
        refine ⟨?_, by simp⟩
        cases i
        simp_all [fieldsI]
      · obtain ⟨x1, rfl, y1⟩ := map1 g1
        obtain ⟨k1, hk, y2⟩ := kmap1 g2
        rw [hk]
        obtain rfl := codeT_5 y1
        obtain rfl := codeK_3 y2
        have z1 := hf.nd g3; have z2 := hf.ns g4; have z4 := hf.ni g6; have z5 := base_neg g7
        refine ⟨?_, by simp [Tok.show, clean_sign]⟩
        cases i
        simp_all [fieldsI, fieldI, Tok.show]
      · obtain ⟨x1, rfl, y1⟩ := map1 g1
        obtain ⟨k1, hk, y2⟩ := kmap1 g2
        rw [hk]
        obtain rfl := codeT_3 y1
        obtain rfl := codeK_4 y2
        have z1 := hf.nd g3; have z2 := hf.ns g4; have z3 := hf.no g5; have z5 := base_neg g7
        refine ⟨?_, by simp [Tok.show, clean_itoa]⟩
        cases i
        simp_all [fieldsI, fieldI, Tok.show]
      · obtain ⟨x1, x2, x3, rfl, y1, y2, y3⟩ := map3 g1
        obtain ⟨k1, k2, k3, hk, u1, u2, u3⟩ := kmap3 g2
        rw [hk]
        obtain rfl := codeT_1 y1; obtain rfl := codeT_2 y2; obtain rfl := codeT_4 y3
        obtain rfl := codeK_1 u1; obtain rfl := codeK_2 u2; obtain rfl := codeK_3 u3
        have z4 := hf.ni g6; have z5 := base_neg g7
        refine ⟨?_, by simp [Tok.show, clean_itoa, clean_reg]⟩
        cases i
        simp_all [fieldsI, fieldI, Tok.show]
      · obtain ⟨x1, x2, x3, rfl, y1, y2, y3⟩ := map3 g1
        obtain ⟨k1, k2, k3, hk, u1, u2, u3⟩ := kmap3 g2
        rw [hk]
        obtain rfl := codeT_1 y1; obtain rfl := codeT_4 y2; obtain rfl := codeT_3 y3
        obtain rfl := codeK_1 u1; obtain rfl := codeK_3 u2; obtain rfl := codeK_4 u3
        have z2 := hf.ns g4; have z5 := base_neg g7
        refine ⟨?_, by simp [Tok.show, clean_itoa, clean_reg]⟩
        cases i
        simp_all [fieldsI, fieldI, Tok.show]
      · obtain ⟨x1, x2, x3, rfl, y1, y2, y3⟩ := map3 g1
        obtain ⟨k1, k2, k3, hk, u1, u2, u3⟩ := kmap3 g2
        rw [hk]
        obtain rfl := codeT_1 y1; obtain rfl := codeT_4 y2; obtain rfl := codeT_2 y3
        obtain rfl := codeK_1 u1; obtain rfl := codeK_3 u2; obtain rfl := codeK_2 u3
        have z4 := hf.ni g6; have z5 := base_neg g7
        refine ⟨?_, by simp [Tok.show, clean_itoa, clean_reg]⟩
        cases i
        simp_all [fieldsI, fieldI, Tok.show]
      · obtain ⟨x1, rfl, y1⟩ := map1 g1
        obtain ⟨k1, hk, y2⟩ := kmap1 g2
        rw [hk]
        obtain rfl := codeT_1 y1
        obtain rfl := codeK_1 y2
        have z2 := hf.ns g4; have z3 := hf.no g5; have z4 := hf.ni g6; have z5 := base_neg g7
        refine ⟨?_, by simp [Tok.show, clean_reg]⟩
        cases i
        simp_all [fieldsI, fieldI, Tok.show]
      · obtain ⟨x1, x2, rfl, y1, y2⟩ := map2 g1
        obtain ⟨k1, k2, hk, u1, u2⟩ := kmap2 g2
        rw [hk]
        obtain rfl := codeT_1 y1; obtain rfl := codeT_2 y2
        obtain rfl := codeK_1 u1; obtain rfl := codeK_5 u2
        have z3 := hf.no g5; have z4 := hf.ni g6; have z5 := base_pos g7
        refine ⟨?_, by simp [Tok.show, clean_reg]⟩
        cases i
        simp_all [fieldsI, fieldI, Tok.show]
      · obtain ⟨x1, x2, rfl, y1, y2⟩ := map2 g1
        obtain ⟨k1, k2, hk, u1, u2⟩ := kmap2 g2
        rw [hk]
        obtain rfl := codeT_1 y1; obtain rfl := codeT_3 y2
        obtain rfl := codeK_1 u1; obtain rfl := codeK_5 u2
        have z2 := hf.ns g4; have z3 := hf.no g5; have z5 := base_neg g7
        refine ⟨?_, by simp [Tok.show, clean_reg, clean_itoa]⟩
        cases i
        simp_all [fieldsI, fieldI, Tok.show]
      · obtain ⟨x1, x2, x3, rfl, y1, y2, y3⟩ := map3 g1
        obtain ⟨k1, k2, k3, hk, u1, u2, u3⟩ := kmap3 g2
        rw [hk]
        obtain rfl := codeT_1 y1; obtain rfl := codeT_2 y2; obtain rfl := codeT_5 y3
        obtain rfl := codeK_1 u1; obtain rfl := codeK_5 u2; obtain rfl := codeK_3 u3
        have z4 := hf.ni g6; have z5 := base_pos g7
        refine ⟨?_, by simp [Tok.show, clean_sign, clean_reg]⟩
        cases i
        simp_all [fieldsI, fieldI, Tok.show]
      · obtain ⟨x1, x2, x3, rfl, y1, y2, y3⟩ := map3 g1
        obtain ⟨k1, k2, k3, hk, u1, u2, u3⟩ := kmap3 g2
        rw [hk]
        obtain rfl := codeT_1 y1; obtain rfl := codeT_3 y2; obtain rfl := codeT_5 y3
        obtain rfl := codeK_1 u1; obtain rfl := codeK_5 u2; obtain rfl := codeK_3 u3
        have z2 := hf.ns g4; have z5 := base_neg g7
        refine ⟨?_, by simp [Tok.show, clean_sign, clean_reg, clean_itoa]⟩
        cases i
        simp_all [fieldsI, fieldI, Tok.show]
    · cases h6
  · cases hfa

theorem line_back (i : Ins) (hi : i.ok) (hf : Fits i) (h24 : i.op ≠ 24) : slotsL (lineI i) = some [i] := by
  obtain ⟨w, ts, ks, e, c1, n1, n2, n3, hfind, hks, hfl, hcl⟩ := fields_back i hi hf h24
  unfold slotsL lineI
  rw [wordsL_join (ws := (toks i.op).map (Tok.show i)) (by
    intro x hx
    rw [e] at hx
    simp only [List.map_cons, List.mem_cons, List.mem_map] at hx
    rcases hx with rfl | ⟨t, ht, rfl⟩
    · exact c1
    · exact hcl t ht) (by rw [e]; simp)]
  rw [e]
  show (if (w :: ts.map (Tok.show i)) = [] then some [] else lineW (w :: ts.map (Tok.show i))) = _
  rw [if_neg (by simp)]
  simp only [lineW]
  rw [if_neg n1, if_neg n2, if_neg n3, hfind]
  simp only
  rw [hks, hfl]
  rfl
end Go.Proofs.YtakcdecljfmckaaGreatDoor
