/- Blanks, comments, and lines that say nothing, make no difference. No condition. -/
import Derived.Test.YthkdokkpiaaljaaGreatDoorCore19
set_option linter.all false
set_option linter.unusedVariables false
set_option linter.unusedSimpArgs false
namespace Go.Proofs.YthkdokkpiaaljaaGreatDoor
open Go.RowKit

/-- a text with other blanks, comments, and lines that say nothing: bl: which blank stands at a place; com: the comment -/
def trF (bl : Nat → List UInt8) (com : List UInt8) : Nat → List UInt8 → List UInt8
  | _, [] => []
  | a, c :: s => (if c = 32 then bl a else if c = 10 then bl a ++ 59 :: (com ++ 10 :: (bl a ++ [10])) else [c]) ++ trF bl com (a + 1) s

theorem trF_app (bl : Nat → List UInt8) (com : List UInt8) : ∀ (x y : List UInt8) (a : Nat), trF bl com a (x ++ y) = trF bl com a x ++ trF bl com (a + x.length) y
  | [], y, a => by simp [trF]
  | c :: x, y, a => by
    have ih := trF_app bl com x y (a + 1)
    simp only [List.cons_append, trF, ih, List.append_assoc, List.length_cons]
    rw [show a + 1 + x.length = a + (x.length + 1) by omega]
theorem trF_word (bl : Nat → List UInt8) (com : List UInt8) : ∀ (w : List UInt8) (a : Nat), (∀ c ∈ w, cleanB c = true) → trF bl com a w = w
  | [], _, _ => rfl
  | c :: w, a, h => by
    obtain ⟨h1, h2, h3⟩ := (cleanB_iff c).1 (h c (by simp))
    have c1 : c ≠ 32 := by rintro rfl; revert h1; decide
    have c2 : c ≠ 10 := by rintro rfl; revert h1; decide
    simp only [trF, if_neg c1, if_neg c2, trF_word bl com w (a + 1) (fun x hx => h x (List.mem_cons_of_mem _ hx)), List.singleton_append]

theorem tr_join (bl : Nat → List UInt8) (hbl : ∀ n, bl n ∈ blanks) (com : List UInt8) : ∀ (ws : List (List UInt8)) (a : Nat) (b r : List UInt8) (acc : List (List UInt8)), (∀ w ∈ ws, cleanW w = true) → ws ≠ [] → b ∈ blanks →
    WF1 (trF bl com a (joinW ws) ++ (b ++ r)) false [] acc = WF1 r false [] (acc ++ ws)
  | [], _, _, _, _, _, h, _ => absurd rfl h
  | [w], a, b, r, acc, h, _, hb => by
    obtain ⟨h1, h2⟩ := (cleanW_iff w).1 (h w (by simp))
    simp only [joinW]
    rw [trF_word _ _ _ _ h1, WF1_word _ _ _ _ h1, WF1_blank _ hb, List.nil_append, pushW_clean h2]
  | w :: v :: ws, a, b, r, acc, h, _, hb => by
    obtain ⟨h1, h2⟩ := (cleanW_iff w).1 (h w (by simp))
    have e : trF bl com a (joinW (w :: v :: ws)) = w ++ (bl (a + w.length) ++ trF bl com (a + w.length + 1) (joinW (v :: ws))) := by
      show trF bl com a (w ++ 32 :: joinW (v :: ws)) = _
      rw [trF_app, trF_word _ _ _ _ h1]
      rfl
    rw [e, List.append_assoc, List.append_assoc, WF1_word _ _ _ _ h1, WF1_blank _ (hbl _), List.nil_append, pushW_clean h2, tr_join bl hbl com (v :: ws) _ b r (acc ++ [w]) (fun x hx => h x (List.mem_cons_of_mem _ hx)) (by simp) hb]
    simp

theorem blanks_no10 {b : List UInt8} (h : b ∈ blanks) : (10 : UInt8) ∉ b := by
  simp only [blanks, List.mem_cons, List.not_mem_nil, or_false] at h
  rcases h with rfl | rfl | rfl | rfl | rfl | rfl <;> decide
theorem blanks_slots {b : List UInt8} (h : b ∈ blanks) : slotsL b = some [] := by
  simp only [blanks, List.mem_cons, List.not_mem_nil, or_false] at h
  rcases h with rfl | rfl | rfl | rfl | rfl | rfl <;> decide +kernel
theorem tr_no10 (bl : Nat → List UInt8) (hbl : ∀ n, bl n ∈ blanks) (com : List UInt8) : ∀ (x : List UInt8) (a : Nat), (10 : UInt8) ∉ x → (10 : UInt8) ∉ trF bl com a x
  | [], _, _ => by simp [trF]
  | c :: x, a, h => by
    have ih := tr_no10 bl hbl com x (a + 1) (fun hm => h (List.mem_cons_of_mem _ hm))
    have hc : c ≠ 10 := fun e => h (by simp [e])
    simp only [trF, if_neg hc, List.mem_append, not_or]
    refine ⟨?_, ih⟩
    split
    · exact blanks_no10 (hbl a)
    · simpa using fun e => hc e.symm

/-- a line's words: they are clean, and joined -/
theorem chunk_form (l : List Ins) (h : ∀ i ∈ l, i.ok) : ∀ c ∈ chunkL l, ∃ ws, (∀ w ∈ ws, cleanW w = true) ∧ ws ≠ [] ∧ c.1 = joinW ws := by
  have key : ∀ (n : Nat) (l : List Ins), l.length ≤ n → (∀ i ∈ l, i.ok) → ∀ c ∈ chunkL l, ∃ ws, (∀ w ∈ ws, cleanW w = true) ∧ ws ≠ [] ∧ c.1 = joinW ws := by
    have hraw : ∀ i : Ins, ∃ ws, (∀ w ∈ ws, cleanW w = true) ∧ ws ≠ [] ∧ rawI i = joinW ws := fun i => ⟨_, by simp [clean_itoa, show cleanW [114, 97, 119] = true by decide], by simp, rfl⟩
    intro n
    induction n with
    | zero =>
      intro l hl _ c hc
      obtain rfl := List.eq_nil_of_length_eq_zero (by omega : l.length = 0)
      simp [chunkL] at hc
    | succ n ih =>
      intro l hl hok c hc
      match l, hl, hok, hc with
      | [], _, _, hc => simp [chunkL] at hc
      | i :: l, hl, hok, hc =>
        have hi := hok i (by simp)
        have hl' : ∀ x ∈ l, x.ok := fun x hx => hok x (List.mem_cons_of_mem _ hx)
        rw [chunkL_cons] at hc
        by_cases c1 : (checkI i true == 0 && i.op != 24) = true
        · rw [if_pos c1] at hc
          simp only [Bool.and_eq_true, bne_iff_ne] at c1
          rcases List.mem_cons.1 hc with rfl | hc
          · refine ⟨_, line_clean i hi (check_fits c1.1) c1.2, ?_, rfl⟩
            obtain ⟨w, ts, ks, e, _⟩ := fields_back i hi (check_fits c1.1) c1.2
            rw [e]; simp
          · exact ih l (by simpa using hl) hl' c hc
        · rw [if_neg c1] at hc
          match l, hl, hl', hc with
          | [], _, _, hc =>
            simp only [List.mem_singleton] at hc
            subst hc
            exact hraw i
          | j :: l', hl, hl', hc =>
            simp only at hc
            by_cases c2 : (checkI i true == 0 && halfB j (i.src == 1)) = true
            · rw [if_pos c2] at hc
              rcases List.mem_cons.1 hc with rfl | hc
              · show ∃ ws, _ ∧ _ ∧ pairI i j = joinW ws
                unfold pairI
                split
                · exact ⟨_, by simp [clean_itoa, clean_reg, show cleanW [108, 100, 109, 97, 112] = true by decide], by simp, rfl⟩
                · exact ⟨_, by simp [clean_dec, clean_reg, show cleanW [108, 100, 105, 109, 109] = true by decide], by simp, rfl⟩
              · exact ih l' (by simp at hl; omega) (fun x hx => hl' x (List.mem_cons_of_mem _ hx)) c hc
            · rw [if_neg c2] at hc
              rcases List.mem_cons.1 hc with rfl | hc
              · exact hraw i
              · exact ih (j :: l') (by simpa using hl) hl' c hc
  exact key l.length l (Nat.le_refl _) h

theorem tr_lines (bl : Nat → List UInt8) (hbl : ∀ n, bl n ∈ blanks) (com : List UInt8) (hcom : ∀ c ∈ com, c < 128) (hc10 : (10 : UInt8) ∉ com) : ∀ (cs : List (List UInt8 × List Ins)) (a k : Nat) (acc : List Ins) (tail : List UInt8),
    (∀ c ∈ cs, slotsL c.1 = some c.2 ∧ (10 : UInt8) ∉ c.1 ∧ ∃ ws, (∀ w ∈ ws, cleanW w = true) ∧ ws ≠ [] ∧ c.1 = joinW ws) → (acc ++ cs.flatMap (·.2)).length ≤ 64 →
    readF (splitF (trF bl com a (linesT (cs.map (·.1))) ++ tail) []) k acc = readF (splitF tail []) (k + 2 * cs.length) (acc ++ cs.flatMap (·.2))
  | [], a, k, acc, tail, _, _ => by simp [linesT, trF]
  | c :: cs, a, k, acc, tail, h, hl => by
    obtain ⟨hs, h10, ws, hw, hne, hj⟩ := h c (by simp)
    simp only [List.flatMap_cons, List.length_append] at hl
    have e : trF bl com a (linesT ((c :: cs).map (·.1))) ++ tail = (trF bl com a c.1 ++ (bl (a + c.1.length) ++ 59 :: com)) ++ 10 :: (bl (a + c.1.length) ++ 10 :: (trF bl com (a + c.1.length + 1) (linesT (cs.map (·.1))) ++ tail)) := by
      have : linesT ((c :: cs).map (·.1)) = c.1 ++ 10 :: linesT (cs.map (·.1)) := by simp [linesT]
      rw [this, trF_app]
      simp [trF]
    have n1 : (10 : UInt8) ∉ trF bl com a c.1 ++ (bl (a + c.1.length) ++ 59 :: com) := by
      simp only [List.mem_append, List.mem_cons, not_or]
      exact ⟨tr_no10 bl hbl com _ _ h10, blanks_no10 (hbl _), by decide, hc10⟩
    have s1 : slotsL (trF bl com a c.1 ++ (bl (a + c.1.length) ++ 59 :: com)) = some c.2 := by
      have hwl : wordsL (trF bl com a c.1 ++ (bl (a + c.1.length) ++ 59 :: com)) = some ws := by
        show WF1 _ false [] [] = _
        rw [hj, tr_join bl hbl com ws a _ _ [] hw hne (hbl _), WF1_semi _ _ _ hcom]
        simp [pushW]
      have h2 := slots_words hw hne
      rw [← hj, hs] at h2
      unfold slotsL
      rw [hwl]
      show (if ws = [] then some [] else lineW ws) = _
      rw [if_neg hne, ← h2]
    rw [e, splitF_app _ _ _ n1, splitF_app _ _ _ (blanks_no10 (hbl _)), List.nil_append, List.nil_append]
    rw [readF_cons, s1]
    simp only
    rw [if_neg (by simp only [List.length_append]; omega)]
    rw [readF_cons, blanks_slots (hbl _)]
    simp only [List.append_nil]
    rw [if_neg (by simp only [List.length_append]; omega), tr_lines bl hbl com hcom hc10 cs (a + c.1.length + 1) (k + 1 + 1) (acc ++ c.2) tail (fun x hx => h x (List.mem_cons_of_mem _ hx)) (by simp only [List.length_append]; omega)]
    simp only [List.flatMap_cons, List.length_cons, List.append_assoc]
    rw [show k + 1 + 1 + 2 * cs.length = k + 2 * (cs.length + 1) by omega]

theorem tr_count (bl : Nat → List UInt8) (hbl : ∀ n, bl n ∈ blanks) (com : List UInt8) (hc10 : (10 : UInt8) ∉ com) : ∀ (x : List UInt8) (a : Nat), (trF bl com a x).count 10 = 2 * x.count 10
  | [], _ => rfl
  | c :: x, a => by
    have ih := tr_count bl hbl com hc10 x (a + 1)
    have hb : (bl a).count 10 = 0 := List.count_eq_zero.2 (blanks_no10 (hbl a))
    have hc : com.count 10 = 0 := List.count_eq_zero.2 hc10
    simp only [trF, List.count_append, ih]
    by_cases h32 : c = 32
    · subst h32
      rw [if_pos rfl, hb, List.count_cons_of_ne (by decide)]
      omega
    · by_cases h10 : c = 10
      · subst h10
        rw [if_neg h32, if_pos rfl, List.count_cons_self]
        simp only [List.count_append, hb, List.count_cons_of_ne (show (59 : UInt8) ≠ 10 by decide), hc, List.count_cons_self, List.count_nil]
        omega
      · rw [if_neg h32, if_neg h10, List.count_cons_of_ne h10, List.count_cons_of_ne h10]
        simp

/-- the text that LinesBlank makes -/
def blankT (bl : Nat → List UInt8) (com : List UInt8) (s : List UInt8) : List UInt8 := [226, 128, 131, 59] ++ com ++ 10 :: trF bl com 0 s

theorem blank_head {com : List UInt8} (hcom : ∀ c ∈ com, c < 128) : slotsL ([226, 128, 131, 59] ++ com) = some [] := by
  have : wordsL ([226, 128, 131, 59] ++ com) = some [] := by
    show WF1 ([226, 128, 131] ++ 59 :: com) false [] [] = _
    rw [WF1_blank _ (by simp [blanks]), WF1_semi _ _ _ hcom]
    rfl
  unfold slotsL
  rw [this]
  rfl
theorem x_slots : slotsL [120] = none := by decide +kernel

theorem blank_read (l : List Ins) (h : ∀ i ∈ l, i.ok) (hl : l.length ≤ 20) (bl : Nat → List UInt8) (hbl : ∀ n, bl n ∈ blanks) (com : List UInt8) (hcom : ∀ c ∈ com, c < 128) (hc10 : (10 : UInt8) ∉ com) (hs : (blankT bl com (showL l)).length ≤ 4000) :
    readS (blankT bl com (showL l)) = (l, 0, 0) ∧ ((blankT bl com (showL l)).length ≠ 4000 → readS (blankT bl com (showL l) ++ [120]) = ([], (blankT bl com (showL l)).count 10 + 1, 10)) := by
  obtain ⟨c1, c2, c3⟩ := chunks l.length l (Nat.le_refl _) h
  have hch : ∀ c ∈ chunkL l, slotsL c.1 = some c.2 ∧ (10 : UInt8) ∉ c.1 ∧ ∃ ws, (∀ w ∈ ws, cleanW w = true) ∧ ws ≠ [] ∧ c.1 = joinW ws := fun c hc => ⟨(c1 c hc).back, (c1 c hc).no10, chunk_form l h c hc⟩
  have hd10 : (10 : UInt8) ∉ [226, 128, 131, 59] ++ com := by
    simp only [List.mem_append, not_or]
    exact ⟨by decide, hc10⟩
  have key : ∀ tail, readF (splitL (blankT bl com (showL l) ++ tail)) 1 [] = readF (splitF tail []) (2 + 2 * (chunkL l).length) l := fun tail => by
    have e : blankT bl com (showL l) ++ tail = ([226, 128, 131, 59] ++ com) ++ 10 :: (trF bl com 0 (showL l) ++ tail) := by simp [blankT]
    unfold splitL
    rw [e, splitF_app _ _ _ hd10, List.nil_append]
    rw [readF_cons, blank_head hcom]
    simp only [List.append_nil, List.length_nil]
    rw [if_neg (by omega), show_lines l h, tr_lines bl hbl com hcom hc10 (chunkL l) 0 (1 + 1) [] tail hch (by rw [c3]; simp; omega), c3]
    rfl
  refine ⟨?_, fun hne => ?_⟩
  · have := key []
    rw [List.append_nil] at this
    unfold readS
    rw [if_neg (by omega), this]
    exact readF_end _ _ (by omega)
  · unfold readS
    rw [if_neg (by rw [List.length_append, List.length_singleton]; omega), key [120]]
    have hcount : (blankT bl com (showL l)).count 10 = 1 + 2 * (chunkL l).length := by
      have h1 : com.count 10 = 0 := List.count_eq_zero.2 hc10
      have h2 := count_lines _ (chunk_no10 l h)
      unfold blankT
      simp only [List.count_append, List.count_cons_self, tr_count bl hbl com hc10, h1]
      rw [show_lines l h, h2, List.length_map]
      simp
      omega
    rw [hcount]
    rw [show splitF [120] [] = [[120]] from rfl, readF_cons, x_slots]
    simp only
    rw [show 2 + 2 * (chunkL l).length = 1 + 2 * (chunkL l).length + 1 by omega]
end Go.Proofs.YthkdokkpiaaljaaGreatDoor
