/- What is read is a program; blanks and comments make no difference. No condition. firewallref03.register. firewallref03.char. UTF-8, as the library decodes it, and as the document says it. No condition. -/
import Derived.Test.YtakcdecljfmckaaGreatDoorCore4
import Derived.Test.YtakcdecljfmckaaGreatDoorCore3
import Derived.BigGuardPart
import Derived.Handy
import Derived.Lib.TrimUEq
import Derived.Lib.MapLaws
import Derived.Lib.ValidLaws
set_option linter.all false
set_option linter.unusedVariables false
set_option linter.unusedSimpArgs false
namespace Go.Proofs.YtakcdecljfmckaaGreatDoor
open Go.RowKit

/-! ### what is read is a program -/
theorem parseI_le {s : List UInt8} {lo hi : Nat} {n : Int} (h : parseI s lo hi = some n) : -(lo : Int) ≤ n ∧ n ≤ hi := by
  unfold parseI at h
  split at h
  · cases h
  · split at h
    · cases h; omega
    · cases h
  · split at h
    · cases h; omega
    · cases h
theorem regW_le {s : List UInt8} {r : Nat} (h : regW s = some r) : r ≤ 10 := by
  have := List.mem_of_find?_eq_some h
  have := List.mem_range.1 this
  omega
def cntE : List Kd → Nat
  | [] => 0
  | .e :: l => cntE l + 1
  | .d :: l => cntE l
  | .s :: l => cntE l
  | .o :: l => cntE l
  | .v :: l => cntE l
theorem fieldsI_ok : ∀ (ks : List Kd) (ws : List (List UInt8)) (i j : Ins), i.ok → i.op + 8 * cntE ks < 256 → fieldsI i ks ws = some j → j.ok
  | [], [], i, j, hi, _, h => by cases h; exact hi
  | [], _ :: _, _, _, _, _, h => by cases h
  | k :: ks, [], _, _, _, _, h => by cases k <;> cases h
  | k :: ks, w :: ws, i, j, hi, hc, h => by
    simp only [fieldsI, Option.bind_eq_some_iff] at h
    obtain ⟨i2, h1, h2⟩ := h
    cases k with
    | d =>
      simp only [fieldI, Option.map_eq_some_iff] at h1
      obtain ⟨r, hr, rfl⟩ := h1
      have := regW_le hr
      exact fieldsI_ok ks ws { i with dst := r } j ⟨hi.op, by show r < 256; omega, hi.src, hi.off, hi.imm⟩ hc h2
    | s =>
      simp only [fieldI, Option.map_eq_some_iff] at h1
      obtain ⟨r, hr, rfl⟩ := h1
      have := regW_le hr
      exact fieldsI_ok ks ws { i with src := r } j ⟨hi.op, hi.dst, by show r < 256; omega, hi.off, hi.imm⟩ hc h2
    | o =>
      simp only [fieldI, Option.map_eq_some_iff] at h1
      obtain ⟨r, hr, rfl⟩ := h1
      have := parseI_le hr
      exact fieldsI_ok ks ws { i with off := r } j ⟨hi.op, hi.dst, hi.src, by show -32768 ≤ r ∧ r < 32768; omega, hi.imm⟩ hc h2
    | v =>
      simp only [fieldI, Option.map_eq_some_iff] at h1
      obtain ⟨r, hr, rfl⟩ := h1
      have := parseI_le hr
      exact fieldsI_ok ks ws { i with imm := r } j ⟨hi.op, hi.dst, hi.src, hi.off, by show -2147483648 ≤ r ∧ r < 2147483648; omega⟩ hc h2
    | e =>
      simp only [cntE] at hc
      simp only [fieldI] at h1
      split at h1
      · rename_i r hr
        cases h1
        have := regW_le hr
        exact fieldsI_ok ks ws { i with src := r, op := i.op + 8 } j ⟨by show i.op + 8 < 256; omega, hi.dst, by show r < 256; omega, hi.off, hi.imm⟩ (by show i.op + 8 + 8 * cntE ks < 256; omega) h2
      · rw [Option.map_eq_some_iff] at h1
        obtain ⟨r, hr, rfl⟩ := h1
        have := parseI_le hr
        exact fieldsI_ok ks ws { i with imm := r } j ⟨hi.op, hi.dst, hi.src, hi.off, by show -2147483648 ≤ r ∧ r < 2147483648; omega⟩ (by show i.op + 8 * cntE ks < 256; omega) h2

def kindsB (op : Nat) : Bool := decide (op + 8 * cntE (kindsOf op) < 256)
theorem kinds_all : (List.range 256).all kindsB = true := by decide +kernel

theorem s32_le {n : Nat} (h : n < 4294967296) : -2147483648 ≤ s32 n ∧ s32 n < 2147483648 := by
  unfold s32
  split <;> omega

theorem lineW_ok {ws : List (List UInt8)} {l : List Ins} (h : lineW ws = some l) : ∀ i ∈ l, i.ok := by
  match ws, h with
  | [], h => simp [lineW] at h
  | first :: rest, h =>
    simp only [lineW] at h
    split at h
    · split at h
      · simp only [Option.bind_eq_some_iff, Option.map_eq_some_iff] at h
        obtain ⟨x, hx, y, hy, z, hz, i, hi, rfl⟩ := h
        have := parseI_le hx
        have := parseI_le hy
        have := parseI_le hz
        intro j hj
        rw [List.mem_singleton.1 hj]
        exact fieldsI_ok _ _ _ i ⟨by show x.toNat < 256; omega, by show y.toNat < 256; omega, by show z.toNat < 256; omega, by show (-32768 : Int) ≤ 0 ∧ (0 : Int) < 32768; omega, by show (-2147483648 : Int) ≤ 0 ∧ (0 : Int) < 2147483648; omega⟩ (by simp only [cntE]; show x.toNat + _ < 256; omega) hi
      · cases h
    · split at h
      · split at h
        · simp only [Option.bind_eq_some_iff, Option.map_eq_some_iff] at h
          obtain ⟨r, hr, n, hn, rfl⟩ := h
          have h1 := regW_le hr
          have h2 := parseI_le hn
          have a1 := s32_le (n := n.toNat % 4294967296) (Nat.mod_lt _ (by decide))
          have a2 := s32_le (n := n.toNat / 4294967296) (by omega)
          intro j hj
          simp only [List.mem_cons, List.not_mem_nil, or_false] at hj
          rcases hj with rfl | rfl
          · exact ⟨by show 24 < 256; omega, by show r < 256; omega, by show 0 < 256; omega, by show (-32768 : Int) ≤ 0 ∧ (0 : Int) < 32768; omega, a1⟩
          · exact ⟨by show 0 < 256; omega, by show 0 < 256; omega, by show 0 < 256; omega, by show (-32768 : Int) ≤ 0 ∧ (0 : Int) < 32768; omega, a2⟩
        · cases h
      · split at h
        · rw [Option.map_eq_some_iff] at h
          obtain ⟨i, hi, rfl⟩ := h
          intro j hj
          simp only [List.mem_cons, List.not_mem_nil, or_false] at hj
          rcases hj with rfl | rfl
          · exact fieldsI_ok _ _ _ j ⟨by show 24 < 256; omega, by show 0 < 256; omega, by show 1 < 256; omega, by show (-32768 : Int) ≤ 0 ∧ (0 : Int) < 32768; omega, by show (-2147483648 : Int) ≤ 0 ∧ (0 : Int) < 2147483648; omega⟩ (by simp [cntE]) hi
          · exact ⟨by show 0 < 256; omega, by show 0 < 256; omega, by show 0 < 256; omega, by show (-32768 : Int) ≤ 0 ∧ (0 : Int) < 32768; omega, by show (-2147483648 : Int) ≤ 0 ∧ (0 : Int) < 2147483648; omega⟩
        · split at h
          · cases h
          · rename_i op hop
            rw [Option.map_eq_some_iff] at h
            obtain ⟨i, hi, rfl⟩ := h
            have hr := List.mem_of_find?_eq_some hop
            have hlt := List.mem_range.1 hr
            have hk := of_decide_eq_true (List.all_eq_true.1 kinds_all op hr)
            intro j hj
            rw [List.mem_singleton.1 hj]
            exact fieldsI_ok _ _ _ i ⟨hlt, by show 0 < 256; omega, by show 0 < 256; omega, by show (-32768 : Int) ≤ 0 ∧ (0 : Int) < 32768; omega, by show (-2147483648 : Int) ≤ 0 ∧ (0 : Int) < 2147483648; omega⟩ hk hi
theorem slotsL_ok {t : List UInt8} {l : List Ins} (h : slotsL t = some l) : ∀ i ∈ l, i.ok := by
  unfold slotsL at h
  rw [Option.bind_eq_some_iff] at h
  obtain ⟨ws, _, h⟩ := h
  split at h
  · cases h; simp
  · exact lineW_ok h

theorem readF_ok : ∀ (ls : List (List UInt8)) (a : Nat) (acc : List Ins), acc.length ≤ 64 → (∀ i ∈ acc, i.ok) →
    (∃ l, readF ls a acc = (l, 0, 0) ∧ l.length ≤ 64 ∧ ∀ i ∈ l, i.ok) ∨ ∃ k e, readF ls a acc = ([], k, e) ∧ a ≤ k ∧ (e = 10 ∨ e = 3)
  | [], a, acc, h1, h2 => .inl ⟨acc, rfl, h1, h2⟩
  | t :: r, a, acc, h1, h2 => by
    rw [readF_cons]
    cases hs : slotsL t with
    | none => exact .inr ⟨a, 10, rfl, Nat.le_refl _, .inl rfl⟩
    | some more =>
      simp only
      by_cases hb : 64 < (acc ++ more).length
      · rw [if_pos hb]
        exact .inr ⟨a, 3, rfl, Nat.le_refl _, .inr rfl⟩
      · rw [if_neg hb]
        rcases readF_ok r (a + 1) (acc ++ more) (by omega) (fun i hi => (List.mem_append.1 hi).elim (h2 i) (slotsL_ok hs i)) with ⟨l, q1, q2⟩ | ⟨k, e, q1, q2, q3⟩
        · exact .inl ⟨l, q1, q2⟩
        · exact .inr ⟨k, e, q1, by omega, q3⟩
/-- what is read of a text -/
theorem readS_ok (s : List UInt8) (h : s.length ≤ 4000) : (∃ l, readS s = (l, 0, 0) ∧ l.length ≤ 64 ∧ ∀ i ∈ l, i.ok) ∨ ∃ k e, readS s = ([], k, e) ∧ 1 ≤ k ∧ (e = 10 ∨ e = 3) := by
  unfold readS
  rw [if_neg (by omega)]
  exact readF_ok _ 1 [] (by simp) (by simp)

/-! ### blanks -/
def blanks : List (List UInt8) := [[32], [9], [13], [194, 160], [226, 128, 131], [32, 32]]

theorem charN_le (s : List UInt8) : charN s ≤ s.length := by
  unfold charN
  split
  · simp
  · rename_i c t
    have hl : lead c ≤ 4 := by unfold lead; repeat' split <;> try omega
    simp only [List.length_cons]
    split
    · omega
    · split
      · omega
      · split
        · omega
        · repeat' split
          all_goals omega
theorem wordsF_fuel : ∀ (n k k' : Nat) (s : List UInt8) (over : Bool) (word : List UInt8) (acc : List (List UInt8)), s.length ≤ n → s.length ≤ k → s.length ≤ k' → wordsF k s over word acc = wordsF k' s over word acc
  | n, k, k', [], over, word, acc, _, _, _ => by rw [wordsF_end, wordsF_end]
  | 0, _, _, c :: s, _, _, _, h, _, _ => by simp at h
  | n + 1, k, k', c :: s, over, word, acc, hn, hk, hk' => by
    obtain ⟨k, rfl⟩ : ∃ m, k = m + 1 := ⟨k - 1, by simp at hk; omega⟩
    obtain ⟨k', rfl⟩ : ∃ m, k' = m + 1 := ⟨k' - 1, by simp at hk'; omega⟩
    by_cases hc : charN (c :: s) = 0
    · simp [wordsF, hc]
    · have hd : ((c :: s).drop (charN (c :: s))).length ≤ s.length := by rw [List.length_drop, List.length_cons]; omega
      simp only [List.length_cons] at hn hk hk'
      rw [wordsF_succ _ _ _ _ _ (by simp) hc, wordsF_succ _ _ _ _ _ (by simp) hc]
      rw [wordsF_fuel n k k' _ _ _ _ (by omega) (by omega) (by omega), wordsF_fuel n k k' _ _ _ _ (by omega) (by omega) (by omega)]

/-- with as much fuel as there are bytes -/
def WF1 (s : List UInt8) (over : Bool) (word : List UInt8) (acc : List (List UInt8)) : Option (List (List UInt8)) := wordsF s.length s over word acc
theorem WF1_fuel {k : Nat} {s : List UInt8} {over : Bool} {word : List UInt8} {acc : List (List UInt8)} (h : s.length ≤ k) : wordsF k s over word acc = WF1 s over word acc := wordsF_fuel k k s.length s over word acc h h (Nat.le_refl _)
theorem WF1_word (w s word : List UInt8) (acc : List (List UInt8)) (h : ∀ c ∈ w, cleanB c = true) : WF1 (w ++ s) false word acc = WF1 s false (word ++ w) acc := by
  show wordsF (w ++ s).length (w ++ s) false word acc = _
  rw [List.length_append]
  exact wordsF_word w s.length s word acc h
theorem WF1_char (n : Nat) (s : List UInt8) (over : Bool) (word : List UInt8) (acc : List (List UInt8)) (hc : charN s = n) (h0 : n ≠ 0) : WF1 s over word acc =
    if over || s.take n == [59] || blankB (s.take n) then WF1 (s.drop n) (over || s.take n == [59]) [] (pushW word acc) else WF1 (s.drop n) false (word ++ s.take n) acc := by
  subst hc
  have hs : s ≠ [] := by rintro rfl; exact h0 rfl
  obtain ⟨m, hm⟩ : ∃ m, s.length = m + 1 := ⟨s.length - 1, by have := List.length_pos_iff.2 hs; omega⟩
  unfold WF1
  rw [hm, wordsF_succ _ _ _ _ _ hs h0, WF1_fuel (by rw [List.length_drop]; omega), WF1_fuel (by rw [List.length_drop]; omega)]
  rfl
theorem charN_a0 (s : List UInt8) : charN (194 :: 160 :: s) = 2 := by
  unfold charN
  simp [lead, least2, most2]
theorem charN_2003 (s : List UInt8) : charN (226 :: 128 :: 131 :: s) = 3 := by
  unfold charN
  simp [lead, least2, most2, contB]
theorem WF1_b1 (c : UInt8) (h : blankB [c] = true) (hc : c < 128) (s word : List UInt8) (acc : List (List UInt8)) : WF1 (c :: s) false word acc = WF1 s false [] (pushW word acc) := by
  have h59 : ([c] == ([59] : List UInt8)) = false := by
    rw [beq_eq_false_iff_ne]
    rintro e
    cases e
    revert h; decide
  rw [WF1_char 1 _ _ _ _ (charN_clean hc) (by decide)]
  simp only [List.take_succ_cons, List.take_zero, List.drop_succ_cons, List.drop_zero, h59, h, Bool.or_false, Bool.or_true, if_true]
theorem WF1_blank (b : List UInt8) (hb : b ∈ blanks) (s word : List UInt8) (acc : List (List UInt8)) : WF1 (b ++ s) false word acc = WF1 s false [] (pushW word acc) := by
  simp only [blanks, List.mem_cons, List.not_mem_nil, or_false] at hb
  rcases hb with rfl | rfl | rfl | rfl | rfl | rfl
  · exact WF1_b1 32 rfl (by decide) s word acc
  · exact WF1_b1 9 rfl (by decide) s word acc
  · exact WF1_b1 13 rfl (by decide) s word acc
  · show WF1 (194 :: 160 :: s) false word acc = _
    rw [WF1_char 2 _ _ _ _ (charN_a0 s) (by decide)]
    simp only [List.take_succ_cons, List.take_zero, List.drop_succ_cons, List.drop_zero, show (([194, 160] : List UInt8) == [59]) = false by rfl, show blankB [194, 160] = true by rfl, Bool.or_false, Bool.or_true, if_true]
  · show WF1 (226 :: 128 :: 131 :: s) false word acc = _
    rw [WF1_char 3 _ _ _ _ (charN_2003 s) (by decide)]
    simp only [List.take_succ_cons, List.take_zero, List.drop_succ_cons, List.drop_zero, show (([226, 128, 131] : List UInt8) == [59]) = false by rfl, show blankB [226, 128, 131] = true by rfl, Bool.or_false, Bool.or_true, if_true]
  · show WF1 (32 :: 32 :: s) false word acc = _
    rw [WF1_b1 32 rfl (by decide), WF1_b1 32 rfl (by decide)]
    rfl
theorem WF1_nil (over : Bool) (word : List UInt8) (acc : List (List UInt8)) : WF1 [] over word acc = some (pushW word acc) := rfl
/-- behind a ; -/
theorem WF1_over : ∀ (s : List UInt8) (acc : List (List UInt8)), (∀ c ∈ s, c < 128) → WF1 s true [] acc = some acc
  | [], acc, _ => rfl
  | c :: s, acc, h => by
    rw [WF1_char 1 _ _ _ _ (charN_clean (h c (by simp))) (by decide)]
    simp only [List.take_succ_cons, List.take_zero, List.drop_succ_cons, List.drop_zero, Bool.true_or, if_true]
    exact WF1_over s acc (fun x hx => h x (List.mem_cons_of_mem _ hx))
theorem WF1_semi (s word : List UInt8) (acc : List (List UInt8)) (h : ∀ c ∈ s, c < 128) : WF1 (59 :: s) false word acc = some (pushW word acc) := by
  rw [WF1_char 1 _ _ _ _ (charN_clean (by decide)) (by decide)]
  simp only [List.take_succ_cons, List.take_zero, List.drop_succ_cons, List.drop_zero, show (([59] : List UInt8) == [59]) = true by rfl, Bool.or_true, Bool.true_or, if_true]
  exact WF1_over s _ h

end Go.Proofs.YtakcdecljfmckaaGreatDoor

namespace Go.Proofs.YtakcdecljfmckaaGreatDoor
open Go.RowKit

/-- a word's register, and whether it is one -/
def regR (s : List UInt8) : Nat × Bool := match regW s with | some r => (r, true) | none => (0, false)
theorem regR_some {s : List UInt8} {n : Nat} (h : ∀ m, m < n → (s == regN m) = false) (hn : (s == regN n) = true) (h11 : n < 11) : regR s = (n, true) := by
  have : regW s = some n := by
    unfold regW
    rw [List.find?_range_eq_some]
    exact ⟨hn, List.mem_range.2 h11, fun j hj => by rw [h j hj]; rfl⟩
  unfold regR
  rw [this]
theorem regR_none {s : List UInt8} (h : ∀ m, m < 11 → (s == regN m) = false) : regR s = (0, false) := by
  have : regW s = none := by
    unfold regW
    rw [List.find?_range_eq_none]
    exact fun j hj => by rw [h j hj]; rfl
  unfold regR
  rw [this]
theorem str_beq (a b : List UInt8) : ((⟨a.toArray⟩ : ByteArray).toList == (⟨b.toArray⟩ : ByteArray).toList) = (a == b) := by
  rw [Lib.toList_data, Lib.toList_data]
theorem str_beq2 (a b : List UInt8) : (a == (⟨b.toArray⟩ : ByteArray).toList) = (a == b) := by
  rw [Lib.toList_data]

end Go.Proofs.YtakcdecljfmckaaGreatDoor

namespace Go.Proofs.YtakcdecljfmckaaGreatDoor
open Go.RowKit

/-- charN by numbers: the bytes in front, -1 where there is none -/
def chr4 (c x y z : Int) : Int :=
  if c < 128 then 1
  else if c < 194 then 0
  else if 245 ≤ c then 0
  else if x < (if c = 224 then 160 else if c = 240 then 144 else 128) then 0
  else if (if c = 237 then 159 else if c = 244 then 143 else 191) < x then 0
  else if c < 224 then 2
  else if y < 128 ∨ 191 < y then 0
  else if c < 240 then 3
  else if z < 128 ∨ 191 < z then 0 else 4

theorem chr_is1 {c x y z : Int} (h : c < 128) : 1 = chr4 c x y z := by unfold chr4; rw [if_pos h]
theorem chr_is0 {c x y z : Int} (h : 128 ≤ c) (h2 : c < 194 ∨ 245 ≤ c ∨ x < 128 ∨ 191 < x ∨ (c = 224 ∧ x < 160) ∨ (c = 240 ∧ x < 144) ∨ (c = 237 ∧ 159 < x) ∨ (c = 244 ∧ 143 < x) ∨ (224 ≤ c ∧ (y < 128 ∨ 191 < y)) ∨ (240 ≤ c ∧ (z < 128 ∨ 191 < z))) : 0 = chr4 c x y z := by
  unfold chr4
  rw [if_neg (by omega)]
  by_cases a1 : c < 194
  · rw [if_pos a1]
  rw [if_neg a1]
  by_cases a2 : 245 ≤ c
  · rw [if_pos a2]
  rw [if_neg a2]
  by_cases a3 : x < (if c = 224 then 160 else if c = 240 then 144 else 128)
  · rw [if_pos a3]
  rw [if_neg a3]
  by_cases a4 : (if c = 237 then 159 else if c = 244 then 143 else 191) < x
  · rw [if_pos a4]
  rw [if_neg a4]
  by_cases a5 : c < 224
  · exfalso
    rw [if_neg (by omega), if_neg (by omega)] at a3
    rw [if_neg (by omega), if_neg (by omega)] at a4
    omega
  rw [if_neg a5]
  by_cases a6 : y < 128 ∨ 191 < y
  · rw [if_pos a6]
  rw [if_neg a6]
  by_cases a7 : c < 240
  · exfalso
    by_cases b1 : c = 224
    · rw [if_pos b1] at a3; rw [if_neg (by omega), if_neg (by omega)] at a4; omega
    rw [if_neg b1, if_neg (by omega)] at a3
    by_cases b2 : c = 237
    · rw [if_pos b2] at a4; omega
    rw [if_neg b2, if_neg (by omega)] at a4
    omega
  rw [if_neg a7]
  by_cases a8 : z < 128 ∨ 191 < z
  · rw [if_pos a8]
  rw [if_neg a8]
  exfalso
  rw [if_neg (by omega)] at a3
  rw [if_neg (by omega)] at a4
  by_cases b1 : c = 240
  · rw [if_pos b1] at a3; rw [if_neg (by omega)] at a4; omega
  rw [if_neg b1] at a3
  by_cases b2 : c = 244
  · rw [if_pos b2] at a4; omega
  rw [if_neg b2] at a4
  omega
theorem chr_low {c x : Int} (h : (c = 224 → 160 ≤ x) ∧ (c = 240 → 144 ≤ x) ∧ 128 ≤ x) : ¬ x < (if c = 224 then 160 else if c = 240 then 144 else 128) := by
  split
  · omega
  · split <;> omega
theorem chr_high {c x : Int} (h : (c = 237 → x ≤ 159) ∧ (c = 244 → x ≤ 143) ∧ x ≤ 191) : ¬ (if c = 237 then 159 else if c = 244 then 143 else 191) < x := by
  split
  · omega
  · split <;> omega
theorem chr_is2 {c x y z : Int} (h : 194 ≤ c ∧ c < 224 ∧ 128 ≤ x ∧ x ≤ 191) : 2 = chr4 c x y z := by
  unfold chr4
  rw [if_neg (by omega), if_neg (by omega), if_neg (by omega), if_neg (chr_low (by omega)), if_neg (chr_high (by omega)), if_pos (by omega)]
theorem chr_is3 {c x y z : Int} (h : 224 ≤ c ∧ c < 240 ∧ (c = 224 → 160 ≤ x) ∧ (c = 237 → x ≤ 159) ∧ 128 ≤ x ∧ x ≤ 191 ∧ 128 ≤ y ∧ y ≤ 191) : 3 = chr4 c x y z := by
  unfold chr4
  rw [if_neg (by omega), if_neg (by omega), if_neg (by omega), if_neg (chr_low (by omega)), if_neg (chr_high (by omega)), if_neg (by omega), if_neg (by omega), if_pos (by omega)]
theorem chr_is4 {c x y z : Int} (h : 240 ≤ c ∧ c < 245 ∧ (c = 240 → 144 ≤ x) ∧ (c = 244 → x ≤ 143) ∧ 128 ≤ x ∧ x ≤ 191 ∧ 128 ≤ y ∧ y ≤ 191 ∧ 128 ≤ z ∧ z ≤ 191) : 4 = chr4 c x y z := by
  unfold chr4
  rw [if_neg (by omega), if_neg (by omega), if_neg (by omega), if_neg (chr_low (by omega)), if_neg (chr_high (by omega)), if_neg (by omega), if_neg (by omega), if_neg (by omega), if_neg (by omega)]

/-- the byte at a place of a list, -1 behind the end -/
def zb (t : List UInt8) (k : Nat) : Int := match t[k]? with | some a => (a.toNat : Int) | none => -1
theorem lead_nat (c : UInt8) : lead c = if c.toNat < 128 then 1 else if 194 ≤ c.toNat ∧ c.toNat < 224 then 2 else if 224 ≤ c.toNat ∧ c.toNat < 240 then 3 else if 240 ≤ c.toNat ∧ c.toNat < 245 then 4 else 0 := by
  unfold lead
  simp only [UInt8.lt_iff_toNat_lt, UInt8.le_iff_toNat_le]
  rfl
theorem eq8 (c : UInt8) (n : Nat) (h : n < 256) : c = UInt8.ofNat n ↔ c.toNat = n := by
  constructor
  · rintro rfl; simp; omega
  · intro e; apply UInt8.toNat.inj; simp; omega
theorem least_nat (c : UInt8) : (least2 c).toNat = if c.toNat = 224 then 160 else if c.toNat = 240 then 144 else 128 := by
  unfold least2
  have e1 := eq8 c 224 (by omega)
  have e2 := eq8 c 240 (by omega)
  simp only [show (224 : UInt8) = UInt8.ofNat 224 from rfl, show (240 : UInt8) = UInt8.ofNat 240 from rfl, e1, e2]
  split
  · rfl
  · split <;> rfl
theorem most_nat (c : UInt8) : (most2 c).toNat = if c.toNat = 237 then 159 else if c.toNat = 244 then 143 else 191 := by
  unfold most2
  have e1 := eq8 c 237 (by omega)
  have e2 := eq8 c 244 (by omega)
  simp only [show (237 : UInt8) = UInt8.ofNat 237 from rfl, show (244 : UInt8) = UInt8.ofNat 244 from rfl, e1, e2]
  split
  · rfl
  · split <;> rfl
theorem cont_zb (t : List UInt8) (k : Nat) : contB t k = decide (128 ≤ zb t k ∧ zb t k ≤ 191) := by
  unfold contB zb
  cases t[k]? with
  | none => simp
  | some a =>
    show decide (128 ≤ a ∧ a ≤ 191) = _
    rw [decide_eq_decide, UInt8.le_iff_toNat_le, UInt8.le_iff_toNat_le]
    show (128 ≤ a.toNat ∧ a.toNat ≤ 191) ↔ _
    dsimp only
    omega
theorem zb_lt (t : List UInt8) (k : Nat) (h : t.length ≤ k) : zb t k = -1 := by
  unfold zb
  rw [List.getElem?_eq_none h]

theorem charN_chr (c : UInt8) (t : List UInt8) : ((charN (c :: t) : Nat) : Int) = chr4 c.toNat (zb t 0) (zb t 1) (zb t 2) := by
  have hl := lead_nat c
  have hc := c.toNat_lt
  unfold charN
  dsimp only
  by_cases h1 : c.toNat < 128
  · rw [if_pos h1] at hl
    rw [hl, if_pos (by omega)]
    exact chr_is1 (by omega)
  rw [if_neg h1] at hl
  by_cases h0 : c.toNat < 194 ∨ 245 ≤ c.toNat
  · rw [if_neg (by omega), if_neg (by omega), if_neg (by omega)] at hl
    rw [hl, if_pos (by omega)]
    exact chr_is0 (by omega) (by omega)
  have l2 : 2 ≤ lead c ∧ lead c ≤ 4 := by
    rw [hl]
    split
    · omega
    · split
      · omega
      · rw [if_pos (by omega)]; omega
  rw [if_neg (by omega)]
  by_cases hs : t.length + 1 < lead c
  · rw [if_pos hs]
    refine chr_is0 (by omega) ?_
    have z0 := zb_lt t 0
    have z1 := zb_lt t 1
    have z2 := zb_lt t 2
    by_cases a : t.length ≤ 0
    · have := z0 a; omega
    by_cases b : t.length ≤ 1
    · have := z1 b
      by_cases h2 : c.toNat < 224
      · rw [if_pos (by omega)] at hl; omega
      · omega
    by_cases d : t.length ≤ 2
    · have := z2 d
      by_cases h2 : c.toNat < 224
      · rw [if_pos (by omega)] at hl; omega
      · rw [if_neg (by omega)] at hl
        by_cases h3 : c.toNat < 240
        · rw [if_pos (by omega)] at hl; omega
        · omega
    omega
  rw [if_neg hs]
  cases t with
  | nil => simp at hs; omega
  | cons a t =>
    have za : zb (a :: t) 0 = a.toNat := rfl
    have k1 := cont_zb (a :: t) 1
    have k2 := cont_zb (a :: t) 2
    have hm := most_nat c
    have hle := least_nat c
    dsimp only
    rw [za]
    generalize zb (a :: t) 1 = y at *
    generalize zb (a :: t) 2 = z at *
    have hx : (a < least2 c ∨ most2 c < a) ↔ (a.toNat < (if c.toNat = 224 then 160 else if c.toNat = 240 then 144 else 128) ∨ (if c.toNat = 237 then 159 else if c.toNat = 244 then 143 else 191) < a.toNat) := by
      rw [UInt8.lt_iff_toNat_lt, UInt8.lt_iff_toNat_lt, hm, hle]
    by_cases hb : a < least2 c ∨ most2 c < a
    · rw [if_pos hb]
      refine chr_is0 (by omega) ?_
      rw [hx] at hb
      rcases hb with hb | hb
      · split at hb
        · omega
        · split at hb <;> omega
      · split at hb
        · omega
        · split at hb <;> omega
    rw [if_neg hb]
    rw [hx] at hb
    have hxx : (c.toNat = 224 → 160 ≤ a.toNat) ∧ (c.toNat = 240 → 144 ≤ a.toNat) ∧ (c.toNat = 237 → a.toNat ≤ 159) ∧ (c.toNat = 244 → a.toNat ≤ 143) ∧ 128 ≤ a.toNat ∧ a.toNat ≤ 191 := by
      rcases Nat.lt_or_ge c.toNat 245 with _ | _
      · refine ⟨?_, ?_, ?_, ?_, ?_, ?_⟩
        · intro e; rw [if_pos e] at hb; omega
        · intro e; rw [if_neg (by omega), if_pos e] at hb; omega
        · intro e
          have : ¬ (if c.toNat = 237 then 159 else if c.toNat = 244 then 143 else 191) < a.toNat := fun h => hb (.inr h)
          rw [if_pos e] at this; omega
        · intro e
          have : ¬ (if c.toNat = 237 then 159 else if c.toNat = 244 then 143 else 191) < a.toNat := fun h => hb (.inr h)
          rw [if_neg (by omega), if_pos e] at this; omega
        · have : ¬ a.toNat < (if c.toNat = 224 then 160 else if c.toNat = 240 then 144 else 128) := fun h => hb (.inl h)
          split at this
          · omega
          · split at this <;> omega
        · have : ¬ (if c.toNat = 237 then 159 else if c.toNat = 244 then 143 else 191) < a.toNat := fun h => hb (.inr h)
          split at this
          · omega
          · split at this <;> omega
      · omega
    clear hb hx hm hle
    by_cases h2 : c.toNat < 224
    · rw [if_pos (by omega)] at hl
      rw [hl, if_pos rfl]
      exact chr_is2 (by omega)
    rw [if_neg (by omega)] at hl
    have hne : lead c ≠ 2 := by
      rw [hl]; split
      · omega
      · rw [if_pos (by omega)]; omega
    rw [if_neg hne, k1]
    by_cases hy : 128 ≤ y ∧ y ≤ 191
    · rw [decide_eq_true hy, if_neg (by simp)]
      by_cases h3 : c.toNat < 240
      · rw [if_pos (by omega)] at hl
        rw [hl, if_pos rfl]
        exact chr_is3 (by omega)
      · rw [if_neg (by omega), if_pos (by omega)] at hl
        rw [hl, if_neg (by omega), k2]
        by_cases hz : 128 ≤ z ∧ z ≤ 191
        · rw [decide_eq_true hz, if_neg (by simp)]
          exact chr_is4 (by omega)
        · rw [decide_eq_false hz, if_pos (by simp)]
          exact chr_is0 (by omega) (by omega)
    · rw [decide_eq_false hy, if_pos (by simp)]
      exact chr_is0 (by omega) (by omega)

/-- the byte at a place, -1 behind the end -/
def byteZ (S : ByteArray) (a : Nat) : Int := if h : a < S.size then (S[a].toNat : Int) else -1
theorem byteZ_in {S : ByteArray} {a : Nat} (h : a < S.size) : byteZ S a = (S[a].toNat : Int) := dif_pos h
theorem byteZ_out {S : ByteArray} {a : Nat} (h : ¬ a < S.size) : byteZ S a = -1 := dif_neg h
theorem byteZ_zb (s : List UInt8) (a : Nat) : byteZ ⟨s.toArray⟩ a = zb s a := by
  unfold byteZ zb
  split
  · rename_i h
    have h2 : a < s.length := by simpa [ByteArray.size] using h
    rw [List.getElem?_eq_getElem h2]
    rfl
  · rename_i h
    have h2 : s.length ≤ a := by simpa [ByteArray.size] using h
    rw [List.getElem?_eq_none h2]

theorem char_chr (s : List UInt8) (a : Nat) (h : a < s.length) : chr4 (byteZ ⟨s.toArray⟩ a) (byteZ ⟨s.toArray⟩ (a + 1)) (byteZ ⟨s.toArray⟩ (a + 2)) (byteZ ⟨s.toArray⟩ (a + 3)) = ((charN (s.drop a) : Nat) : Int) := by
  rw [byteZ_zb, byteZ_zb, byteZ_zb, byteZ_zb, List.drop_eq_getElem_cons h, charN_chr]
  have e : ∀ k, zb (s.drop (a + 1)) k = zb s (a + (k + 1)) := fun k => by
    unfold zb
    rw [List.getElem?_drop, show a + 1 + k = a + (k + 1) by omega]
  have e0 : zb s a = (s[a].toNat : Int) := by
    unfold zb
    rw [List.getElem?_eq_getElem h]
  rw [e, e, e, e0]
end Go.Proofs.YtakcdecljfmckaaGreatDoor

namespace Go.Proofs.YtakcdecljfmckaaGreatDoor
open Go.RowKit

/-- both fail, or both find the same bytes -/
def DecIs (n c x y z : Nat) (X Y Z : Int) : Prop :=
  (chr4 c X Y Z = 0 ∧ Lib.decodeN n c x y z = (65533, 1)) ∨ ∃ k r : Nat, 1 ≤ k ∧ chr4 c X Y Z = k ∧ Lib.decodeN n c x y z = (r, k) ∧ ¬ (r = 65533 ∧ k = 1)

theorem chr_dec (n c x y z : Nat) (X Y Z : Int) (hn : 1 ≤ n) (hc : c < 256) (hx : x < 256) (hy : y < 256) (hz : z < 256) (hX : (1 < n ∧ X = x) ∨ (n ≤ 1 ∧ X = -1)) (hY : (2 < n ∧ Y = y) ∨ (n ≤ 2 ∧ Y = -1)) (hZ : (3 < n ∧ Z = z) ∨ (n ≤ 3 ∧ Z = -1)) : DecIs n c x y z X Y Z := by
  unfold DecIs Lib.decodeN
  by_cases c1 : c < 128
  · rw [if_pos c1]
    exact .inr ⟨1, c, Nat.le_refl _, (chr_is1 (by omega)).symm, rfl, by omega⟩
  rw [if_neg c1]
  by_cases c2 : c < 194
  · have h0 := (chr_is0 (c := c) (x := X) (y := Y) (z := Z) (by omega) (by omega)).symm
    refine .inl ⟨h0, ?_⟩
    by_cases d : c / 32 = 6 ∧ (1 < n ∧ x / 64 = 2)
    · rw [if_pos d, if_neg (by omega)]
    · rw [if_neg d, if_neg (by omega), if_neg (by omega)]
  by_cases c3 : 245 ≤ c
  · have h0 := (chr_is0 (c := c) (x := X) (y := Y) (z := Z) (by omega) (by omega)).symm
    refine .inl ⟨h0, ?_⟩
    rw [if_neg (by omega), if_neg (by omega)]
    by_cases d : c / 8 = 30 ∧ (1 < n ∧ x / 64 = 2) ∧ (2 < n ∧ y / 64 = 2) ∧ (3 < n ∧ z / 64 = 2)
    · rw [if_pos d, if_neg (by omega)]
    · rw [if_neg d]
  by_cases c4 : c < 224
  · by_cases d : 1 < n ∧ x / 64 = 2
    · rw [if_pos ⟨by omega, d⟩, if_pos (by omega)]
      exact .inr ⟨2, _, by omega, (chr_is2 (by omega)).symm, rfl, by omega⟩
    · rw [if_neg (by omega), if_neg (by omega), if_neg (by omega)]
      exact .inl ⟨(chr_is0 (by omega) (by omega)).symm, rfl⟩
  rw [if_neg (by omega)]
  by_cases c5 : c < 240
  · by_cases d : (1 < n ∧ x / 64 = 2) ∧ (2 < n ∧ y / 64 = 2)
    · rw [if_pos ⟨by omega, d⟩]
      by_cases v : (c = 224 → 160 ≤ x) ∧ (c = 237 → x ≤ 159)
      · rw [if_pos (by omega)]
        exact .inr ⟨3, _, by omega, (chr_is3 (by omega)).symm, rfl, by omega⟩
      · rw [if_neg (by omega)]
        exact .inl ⟨(chr_is0 (by omega) (by omega)).symm, rfl⟩
    · rw [if_neg (by omega), if_neg (by omega)]
      exact .inl ⟨(chr_is0 (by omega) (by omega)).symm, rfl⟩
  rw [if_neg (by omega)]
  by_cases d : (1 < n ∧ x / 64 = 2) ∧ (2 < n ∧ y / 64 = 2) ∧ (3 < n ∧ z / 64 = 2)
  · rw [if_pos ⟨by omega, d⟩]
    by_cases v : (c = 240 → 144 ≤ x) ∧ (c = 244 → x ≤ 143)
    · rw [if_pos (by omega)]
      exact .inr ⟨4, _, by omega, (chr_is4 (by omega)).symm, rfl, by omega⟩
    · rw [if_neg (by omega)]
      exact .inl ⟨(chr_is0 (by omega) (by omega)).symm, rfl⟩
  · rw [if_neg (by omega)]
    exact .inl ⟨(chr_is0 (by omega) (by omega)).symm, rfl⟩

theorem zb_getD (t : List UInt8) (k : Nat) : (k < t.length ∧ zb t k = ((t.getD k 0).toNat : Int)) ∨ (t.length ≤ k ∧ zb t k = -1) := by
  rcases Nat.lt_or_ge k t.length with h | h
  · refine .inl ⟨h, ?_⟩
    unfold zb
    rw [List.getElem?_eq_getElem h]
    simp [List.getD, h]
  · exact .inr ⟨h, zb_lt t k h⟩
/-- what stands in front is no character, for both, or the same bytes for both -/
theorem char_dec (l : List UInt8) (h : l ≠ []) : (charN l = 0 ∧ Lib.decodeL l = (65533, 1)) ∨ (charN l ≠ 0 ∧ (Lib.decodeL l).2 = charN l ∧ ¬ ((Lib.decodeL l).1 = 65533 ∧ (Lib.decodeL l).2 = 1)) := by
  cases l with
  | nil => exact absurd rfl h
  | cons c t =>
    have hd := Lib.decodeL_N (c :: t)
    have hk := charN_chr c t
    have z0 := zb_getD t 0
    have z1 := zb_getD t 1
    have z2 := zb_getD t 2
    have e0 : (c :: t).getD 0 0 = c := rfl
    have e1 : (c :: t).getD 1 0 = t.getD 0 0 := rfl
    have e2 : (c :: t).getD 2 0 = t.getD 1 0 := rfl
    have e3 : (c :: t).getD 3 0 = t.getD 2 0 := rfl
    rw [e0, e1, e2, e3] at hd
    have hc := chr_dec (c :: t).length c.toNat (t.getD 0 0).toNat (t.getD 1 0).toNat (t.getD 2 0).toNat (zb t 0) (zb t 1) (zb t 2) (by simp) c.toNat_lt (t.getD 0 0).toNat_lt (t.getD 1 0).toNat_lt (t.getD 2 0).toNat_lt (by simp only [List.length_cons]; omega) (by simp only [List.length_cons]; omega) (by simp only [List.length_cons]; omega)
    rcases hc with ⟨h1, h2⟩ | ⟨k, r, hk1, h1, h2, h3⟩
    · refine .inl ⟨by omega, ?_⟩
      rw [hd, h2]
    · have : charN (c :: t) = k := by omega
      refine .inr ⟨by omega, ?_, ?_⟩
      · rw [hd, h2, this]
      · rw [hd, h2]; exact h3

/-- a rune by its bytes -/
theorem rune_is (l : List UInt8) (h : l ≠ []) (hc : charN l ≠ 0) (r : Nat) (bs : List UInt8) (he : Lib.encodeRune (r : Int) = bs) (hb : ∀ t, Lib.decodeL (bs ++ t) = (r, bs.length)) : ((Lib.decodeL l).1 == r) = (l.take (charN l) == bs) := by
  rcases char_dec l h with ⟨h0, _⟩ | ⟨_, h2, h3⟩
  · exact absurd h0 hc
  have hen := Lib.encode_decode l h h3
  rw [h2] at hen
  rw [Bool.eq_iff_iff]
  simp only [beq_iff_eq]
  constructor
  · intro e
    rw [← hen, e, he]
  · intro e
    have hl : l = bs ++ l.drop (charN l) := by rw [← e, List.take_append_drop]
    rw [hl, hb]
theorem dec1 (c : UInt8) (h : c.toNat < 128) (t : List UInt8) : Lib.decodeL ([c] ++ t) = (c.toNat, 1) := Lib.decodeL_ascii c t h
theorem dec160 (t : List UInt8) : Lib.decodeL ([194, 160] ++ t) = (160, 2) := by
  rw [Lib.decodeL_N]
  simp [Lib.decodeN, List.getD]
theorem dec8195 (t : List UInt8) : Lib.decodeL ([226, 128, 131] ++ t) = (8195, 3) := by
  rw [Lib.decodeL_N]
  simp [Lib.decodeN, List.getD]

/-- a line's bytes are all of characters -/
theorem valid_words : ∀ (n : Nat) (s : List UInt8) (over : Bool) (word : List UInt8) (acc : List (List UInt8)), s.length ≤ n → (Lib.validD s = true ↔ WF1 s over word acc ≠ none)
  | 0, s, over, word, acc, h => by
    have : s = [] := List.eq_nil_of_length_eq_zero (by omega)
    subst this
    simp [Lib.validD_nil, WF1_nil]
  | n + 1, s, over, word, acc, h => by
    by_cases hs : s = []
    · subst hs
      simp [Lib.validD_nil, WF1_nil]
    rw [Lib.validD_step s hs]
    rcases char_dec s hs with ⟨h0, h1⟩ | ⟨h0, h2, h3⟩
    · rw [h1]
      have hw : WF1 s over word acc = none := by
        unfold WF1
        cases s with
        | nil => exact absurd rfl hs
        | cons c t =>
          show wordsF (t.length + 1) (c :: t) over word acc = none
          unfold wordsF
          rw [if_neg hs, if_pos h0]
      rw [hw]
      simp
    · rw [if_neg h3, h2]
      have hlt : (s.drop (charN s)).length ≤ n := by simp; omega
      rw [WF1_char (charN s) s over word acc rfl h0]
      split
      · exact valid_words n _ _ _ _ hlt
      · exact valid_words n _ _ _ _ hlt
end Go.Proofs.YtakcdecljfmckaaGreatDoor
