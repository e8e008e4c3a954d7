/- What is read is a program; blanks and comments make no difference. No condition. -/
import Derived.Test.YthkdokkpiaaljaaGreatDoorCore7
set_option linter.all false
set_option linter.unusedVariables false
set_option linter.unusedSimpArgs false
namespace Go.Proofs.YthkdokkpiaaljaaGreatDoor
open Go.RowKit

/-! ### what is read is a program -/
theorem parseI_le {s : List UInt8} {lo hi : Nat} {n : Int} (h : parseI s lo hi = some n) : -(lo : Int) ≤ n ∧ n ≤ hi := by
  unfold parseI at h
  split at h
  · cases h
  · split at h
    · cases h; omega
    · cases h
  · split at h
    · cases h; omega
    · cases h
theorem regW_le {s : List UInt8} {r : Nat} (h : regW s = some r) : r ≤ 10 := by
  have := List.mem_of_find?_eq_some h
  have := List.mem_range.1 this
  omega
def cntE : List Kd → Nat
  | [] => 0
  | .e :: l => cntE l + 1
  | .d :: l => cntE l
  | .s :: l => cntE l
  | .o :: l => cntE l
  | .v :: l => cntE l
theorem fieldsI_ok : ∀ (ks : List Kd) (ws : List (List UInt8)) (i j : Ins), i.ok → i.op + 8 * cntE ks < 256 → fieldsI i ks ws = some j → j.ok
  | [], [], i, j, hi, _, h => by cases h; exact hi
  | [], _ :: _, _, _, _, _, h => by cases h
  | k :: ks, [], _, _, _, _, h => by cases k <;> cases h
  | k :: ks, w :: ws, i, j, hi, hc, h => by
    simp only [fieldsI, Option.bind_eq_some_iff] at h
    obtain ⟨i2, h1, h2⟩ := h
    cases k with
    | d =>
      simp only [fieldI, Option.map_eq_some_iff] at h1
      obtain ⟨r, hr, rfl⟩ := h1
      have := regW_le hr
      exact fieldsI_ok ks ws { i with dst := r } j ⟨hi.op, by show r < 256; omega, hi.src, hi.off, hi.imm⟩ hc h2
    | s =>
      simp only [fieldI, Option.map_eq_some_iff] at h1
      obtain ⟨r, hr, rfl⟩ := h1
      have := regW_le hr
      exact fieldsI_ok ks ws { i with src := r } j ⟨hi.op, hi.dst, by show r < 256; omega, hi.off, hi.imm⟩ hc h2
    | o =>
      simp only [fieldI, Option.map_eq_some_iff] at h1
      obtain ⟨r, hr, rfl⟩ := h1
      have := parseI_le hr
      exact fieldsI_ok ks ws { i with off := r } j ⟨hi.op, hi.dst, hi.src, by show -32768 ≤ r ∧ r < 32768; omega, hi.imm⟩ hc h2
    | v =>
      simp only [fieldI, Option.map_eq_some_iff] at h1
      obtain ⟨r, hr, rfl⟩ := h1
      have := parseI_le hr
      exact fieldsI_ok ks ws { i with imm := r } j ⟨hi.op, hi.dst, hi.src, hi.off, by show -2147483648 ≤ r ∧ r < 2147483648; omega⟩ hc h2
    | e =>
      simp only [cntE] at hc
      simp only [fieldI] at h1
      split at h1
      · rename_i r hr
        cases h1
        have := regW_le hr
        exact fieldsI_ok ks ws { i with src := r, op := i.op + 8 } j ⟨by show i.op + 8 < 256; omega, hi.dst, by show r < 256; omega, hi.off, hi.imm⟩ (by show i.op + 8 + 8 * cntE ks < 256; omega) h2
      · rw [Option.map_eq_some_iff] at h1
        obtain ⟨r, hr, rfl⟩ := h1
        have := parseI_le hr
        exact fieldsI_ok ks ws { i with imm := r } j ⟨hi.op, hi.dst, hi.src, hi.off, by show -2147483648 ≤ r ∧ r < 2147483648; omega⟩ (by show i.op + 8 * cntE ks < 256; omega) h2

def kindsB (op : Nat) : Bool := decide (op + 8 * cntE (kindsOf op) < 256)
theorem kinds_all : (List.range 256).all kindsB = true := by decide +kernel

theorem s32_le {n : Nat} (h : n < 4294967296) : -2147483648 ≤ s32 n ∧ s32 n < 2147483648 := by
  unfold s32
  split <;> omega

theorem lineW_ok {ws : List (List UInt8)} {l : List Ins} (h : lineW ws = some l) : ∀ i ∈ l, i.ok := by
  match ws, h with
  | [], h => simp [lineW] at h
  | first :: rest, h =>
    simp only [lineW] at h
    split at h
    · split at h
      · simp only [Option.bind_eq_some_iff, Option.map_eq_some_iff] at h
        obtain ⟨x, hx, y, hy, z, hz, i, hi, rfl⟩ := h
        have := parseI_le hx
        have := parseI_le hy
        have := parseI_le hz
        intro j hj
        rw [List.mem_singleton.1 hj]
        exact fieldsI_ok _ _ _ i ⟨by show x.toNat < 256; omega, by show y.toNat < 256; omega, by show z.toNat < 256; omega, by show (-32768 : Int) ≤ 0 ∧ (0 : Int) < 32768; omega, by show (-2147483648 : Int) ≤ 0 ∧ (0 : Int) < 2147483648; omega⟩ (by simp only [cntE]; show x.toNat + _ < 256; omega) hi
      · cases h
    · split at h
      · split at h
        · simp only [Option.bind_eq_some_iff, Option.map_eq_some_iff] at h
          obtain ⟨r, hr, n, hn, rfl⟩ := h
          have h1 := regW_le hr
          have h2 := parseI_le hn
          have a1 := s32_le (n := n.toNat % 4294967296) (Nat.mod_lt _ (by decide))
          have a2 := s32_le (n := n.toNat / 4294967296) (by omega)
          intro j hj
          simp only [List.mem_cons, List.not_mem_nil, or_false] at hj
          rcases hj with rfl | rfl
          · exact ⟨by show 24 < 256; omega, by show r < 256; omega, by show 0 < 256; omega, by show (-32768 : Int) ≤ 0 ∧ (0 : Int) < 32768; omega, a1⟩
          · exact ⟨by show 0 < 256; omega, by show 0 < 256; omega, by show 0 < 256; omega, by show (-32768 : Int) ≤ 0 ∧ (0 : Int) < 32768; omega, a2⟩
        · cases h
      · split at h
        · rw [Option.map_eq_some_iff] at h
          obtain ⟨i, hi, rfl⟩ := h
          intro j hj
          simp only [List.mem_cons, List.not_mem_nil, or_false] at hj
          rcases hj with rfl | rfl
          · exact fieldsI_ok _ _ _ j ⟨by show 24 < 256; omega, by show 0 < 256; omega, by show 1 < 256; omega, by show (-32768 : Int) ≤ 0 ∧ (0 : Int) < 32768; omega, by show (-2147483648 : Int) ≤ 0 ∧ (0 : Int) < 2147483648; omega⟩ (by simp [cntE]) hi
          · exact ⟨by show 0 < 256; omega, by show 0 < 256; omega, by show 0 < 256; omega, by show (-32768 : Int) ≤ 0 ∧ (0 : Int) < 32768; omega, by show (-2147483648 : Int) ≤ 0 ∧ (0 : Int) < 2147483648; omega⟩
        · split at h
          · cases h
          · rename_i op hop
            rw [Option.map_eq_some_iff] at h
            obtain ⟨i, hi, rfl⟩ := h
            have hr := List.mem_of_find?_eq_some hop
            have hlt := List.mem_range.1 hr
            have hk := of_decide_eq_true (List.all_eq_true.1 kinds_all op hr)
            intro j hj
            rw [List.mem_singleton.1 hj]
            exact fieldsI_ok _ _ _ i ⟨hlt, by show 0 < 256; omega, by show 0 < 256; omega, by show (-32768 : Int) ≤ 0 ∧ (0 : Int) < 32768; omega, by show (-2147483648 : Int) ≤ 0 ∧ (0 : Int) < 2147483648; omega⟩ hk hi
theorem slotsL_ok {t : List UInt8} {l : List Ins} (h : slotsL t = some l) : ∀ i ∈ l, i.ok := by
  unfold slotsL at h
  rw [Option.bind_eq_some_iff] at h
  obtain ⟨ws, _, h⟩ := h
  split at h
  · cases h; simp
  · exact lineW_ok h

theorem readF_ok : ∀ (ls : List (List UInt8)) (a : Nat) (acc : List Ins), acc.length ≤ 64 → (∀ i ∈ acc, i.ok) →
    (∃ l, readF ls a acc = (l, 0, 0) ∧ l.length ≤ 64 ∧ ∀ i ∈ l, i.ok) ∨ ∃ k e, readF ls a acc = ([], k, e) ∧ a ≤ k ∧ (e = 10 ∨ e = 3)
  | [], a, acc, h1, h2 => .inl ⟨acc, rfl, h1, h2⟩
  | t :: r, a, acc, h1, h2 => by
    rw [readF_cons]
    cases hs : slotsL t with
    | none => exact .inr ⟨a, 10, rfl, Nat.le_refl _, .inl rfl⟩
    | some more =>
      simp only
      by_cases hb : 64 < (acc ++ more).length
      · rw [if_pos hb]
        exact .inr ⟨a, 3, rfl, Nat.le_refl _, .inr rfl⟩
      · rw [if_neg hb]
        rcases readF_ok r (a + 1) (acc ++ more) (by omega) (fun i hi => (List.mem_append.1 hi).elim (h2 i) (slotsL_ok hs i)) with ⟨l, q1, q2⟩ | ⟨k, e, q1, q2, q3⟩
        · exact .inl ⟨l, q1, q2⟩
        · exact .inr ⟨k, e, q1, by omega, q3⟩
/-- what is read of a text -/
theorem readS_ok (s : List UInt8) (h : s.length ≤ 4000) : (∃ l, readS s = (l, 0, 0) ∧ l.length ≤ 64 ∧ ∀ i ∈ l, i.ok) ∨ ∃ k e, readS s = ([], k, e) ∧ 1 ≤ k ∧ (e = 10 ∨ e = 3) := by
  unfold readS
  rw [if_neg (by omega)]
  exact readF_ok _ 1 [] (by simp) (by simp)

/-! ### blanks -/
def blanks : List (List UInt8) := [[32], [9], [13], [194, 160], [226, 128, 131], [32, 32]]

theorem charN_le (s : List UInt8) : charN s ≤ s.length := by
  unfold charN
  split
  · simp
  · rename_i c t
    have hl : lead c ≤ 4 := by unfold lead; repeat' split <;> try omega
    simp only [List.length_cons]
    split
    · omega
    · split
      · omega
      · split
        · omega
        · repeat' split
          all_goals omega
theorem wordsF_fuel : ∀ (n k k' : Nat) (s : List UInt8) (over : Bool) (word : List UInt8) (acc : List (List UInt8)), s.length ≤ n → s.length ≤ k → s.length ≤ k' → wordsF k s over word acc = wordsF k' s over word acc
  | n, k, k', [], over, word, acc, _, _, _ => by rw [wordsF_end, wordsF_end]
  | 0, _, _, c :: s, _, _, _, h, _, _ => by simp at h
  | n + 1, k, k', c :: s, over, word, acc, hn, hk, hk' => by
    obtain ⟨k, rfl⟩ : ∃ m, k = m + 1 := ⟨k - 1, by simp at hk; omega⟩
    obtain ⟨k', rfl⟩ : ∃ m, k' = m + 1 := ⟨k' - 1, by simp at hk'; omega⟩
    by_cases hc : charN (c :: s) = 0
    · simp [wordsF, hc]
    · have hd : ((c :: s).drop (charN (c :: s))).length ≤ s.length := by rw [List.length_drop, List.length_cons]; omega
      simp only [List.length_cons] at hn hk hk'
      rw [wordsF_succ _ _ _ _ _ (by simp) hc, wordsF_succ _ _ _ _ _ (by simp) hc]
      rw [wordsF_fuel n k k' _ _ _ _ (by omega) (by omega) (by omega), wordsF_fuel n k k' _ _ _ _ (by omega) (by omega) (by omega)]

/-- with as much fuel as there are bytes -/
def WF1 (s : List UInt8) (over : Bool) (word : List UInt8) (acc : List (List UInt8)) : Option (List (List UInt8)) := wordsF s.length s over word acc
theorem WF1_fuel {k : Nat} {s : List UInt8} {over : Bool} {word : List UInt8} {acc : List (List UInt8)} (h : s.length ≤ k) : wordsF k s over word acc = WF1 s over word acc := wordsF_fuel k k s.length s over word acc h h (Nat.le_refl _)
theorem WF1_word (w s word : List UInt8) (acc : List (List UInt8)) (h : ∀ c ∈ w, cleanB c = true) : WF1 (w ++ s) false word acc = WF1 s false (word ++ w) acc := by
  show wordsF (w ++ s).length (w ++ s) false word acc = _
  rw [List.length_append]
  exact wordsF_word w s.length s word acc h
theorem WF1_char (n : Nat) (s : List UInt8) (over : Bool) (word : List UInt8) (acc : List (List UInt8)) (hc : charN s = n) (h0 : n ≠ 0) : WF1 s over word acc =
    if over || s.take n == [59] || blankB (s.take n) then WF1 (s.drop n) (over || s.take n == [59]) [] (pushW word acc) else WF1 (s.drop n) false (word ++ s.take n) acc := by
  subst hc
  have hs : s ≠ [] := by rintro rfl; exact h0 rfl
  obtain ⟨m, hm⟩ : ∃ m, s.length = m + 1 := ⟨s.length - 1, by have := List.length_pos_iff.2 hs; omega⟩
  unfold WF1
  rw [hm, wordsF_succ _ _ _ _ _ hs h0, WF1_fuel (by rw [List.length_drop]; omega), WF1_fuel (by rw [List.length_drop]; omega)]
  rfl
theorem charN_a0 (s : List UInt8) : charN (194 :: 160 :: s) = 2 := by
  unfold charN
  simp [lead, least2, most2]
theorem charN_2003 (s : List UInt8) : charN (226 :: 128 :: 131 :: s) = 3 := by
  unfold charN
  simp [lead, least2, most2, contB]
theorem WF1_b1 (c : UInt8) (h : blankB [c] = true) (hc : c < 128) (s word : List UInt8) (acc : List (List UInt8)) : WF1 (c :: s) false word acc = WF1 s false [] (pushW word acc) := by
  have h59 : ([c] == ([59] : List UInt8)) = false := by
    rw [beq_eq_false_iff_ne]
    rintro e
    cases e
    revert h; decide
  rw [WF1_char 1 _ _ _ _ (charN_clean hc) (by decide)]
  simp only [List.take_succ_cons, List.take_zero, List.drop_succ_cons, List.drop_zero, h59, h, Bool.or_false, Bool.or_true, if_true]
theorem WF1_blank (b : List UInt8) (hb : b ∈ blanks) (s word : List UInt8) (acc : List (List UInt8)) : WF1 (b ++ s) false word acc = WF1 s false [] (pushW word acc) := by
  simp only [blanks, List.mem_cons, List.not_mem_nil, or_false] at hb
  rcases hb with rfl | rfl | rfl | rfl | rfl | rfl
  · exact WF1_b1 32 rfl (by decide) s word acc
  · exact WF1_b1 9 rfl (by decide) s word acc
  · exact WF1_b1 13 rfl (by decide) s word acc
  · show WF1 (194 :: 160 :: s) false word acc = _
    rw [WF1_char 2 _ _ _ _ (charN_a0 s) (by decide)]
    simp only [List.take_succ_cons, List.take_zero, List.drop_succ_cons, List.drop_zero, show (([194, 160] : List UInt8) == [59]) = false by rfl, show blankB [194, 160] = true by rfl, Bool.or_false, Bool.or_true, if_true]
  · show WF1 (226 :: 128 :: 131 :: s) false word acc = _
    rw [WF1_char 3 _ _ _ _ (charN_2003 s) (by decide)]
    simp only [List.take_succ_cons, List.take_zero, List.drop_succ_cons, List.drop_zero, show (([226, 128, 131] : List UInt8) == [59]) = false by rfl, show blankB [226, 128, 131] = true by rfl, Bool.or_false, Bool.or_true, if_true]
  · show WF1 (32 :: 32 :: s) false word acc = _
    rw [WF1_b1 32 rfl (by decide), WF1_b1 32 rfl (by decide)]
    rfl
theorem WF1_nil (over : Bool) (word : List UInt8) (acc : List (List UInt8)) : WF1 [] over word acc = some (pushW word acc) := rfl
/-- behind a ; -/
theorem WF1_over : ∀ (s : List UInt8) (acc : List (List UInt8)), (∀ c ∈ s, c < 128) → WF1 s true [] acc = some acc
  | [], acc, _ => rfl
  | c :: s, acc, h => by
    rw [WF1_char 1 _ _ _ _ (charN_clean (h c (by simp))) (by decide)]
    simp only [List.take_succ_cons, List.take_zero, List.drop_succ_cons, List.drop_zero, Bool.true_or, if_true]
    exact WF1_over s acc (fun x hx => h x (List.mem_cons_of_mem _ hx))
theorem WF1_semi (s word : List UInt8) (acc : List (List UInt8)) (h : ∀ c ∈ s, c < 128) : WF1 (59 :: s) false word acc = some (pushW word acc) := by
  rw [WF1_char 1 _ _ _ _ (charN_clean (by decide)) (by decide)]
  simp only [List.take_succ_cons, List.take_zero, List.drop_succ_cons, List.drop_zero, show (([59] : List UInt8) == [59]) = true by rfl, Bool.or_true, Bool.true_or, if_true]
  exact WF1_over s _ h

end Go.Proofs.YthkdokkpiaaljaaGreatDoor
