/- How lines.split goes through a line, without the program. No condition. a text's lines, by strings.Split. how long a line's words are, and how many. Arguments that are slices, opened element by element. -/
import Derived.Test.YtakcdecljfmckaaGreatDoorCore8
import Derived.Test.YtakcdecljfmckaaGreatDoorCore1
import Derived.Lib.SplitLaws
import Derived.Lib.IndexBytes
import Derived.Lib.Split
import Derived.Lib.CountLaws
import Derived.Lib.Replace
import Derived.Test.YtakcdecljfmckaaGreatDoorRows
import Derived.ProofKit
import Derived.OpenShut
import Derived.Deep.Slices
set_option linter.all false
set_option linter.unusedVariables false
set_option linter.unusedSimpArgs false
namespace Go.Proofs.YtakcdecljfmckaaGreatDoor
open Go.RowKit

theorem WF1_over_any : ∀ (n : Nat) (s : List UInt8) (acc ws : List (List UInt8)), s.length ≤ n → WF1 s true [] acc = some ws → ws = acc
  | 0, s, acc, ws, h, he => by
    have : s = [] := List.eq_nil_of_length_eq_zero (by omega)
    subst this
    rw [WF1_nil] at he
    exact (Option.some.inj he).symm
  | n + 1, s, acc, ws, h, he => by
    by_cases hs : s = []
    · subst hs
      rw [WF1_nil] at he
      exact (Option.some.inj he).symm
    by_cases h0 : charN s = 0
    · have := (valid_words s.length s true [] acc (Nat.le_refl _)).2 (by rw [he]; simp)
      rw [Lib.validD_step s hs] at this
      rcases char_dec s hs with ⟨_, h1⟩ | ⟨h1, _⟩
      · rw [h1] at this; simp at this
      · exact absurd h0 h1
    · rw [WF1_char (charN s) s true [] acc rfl h0] at he
      simp only [Bool.true_or, if_true] at he
      exact WF1_over_any n _ acc ws (by simp; omega) he

/-- where the loop of split stands -/
structure SplitSt (s : List UInt8) (ws : List (List UInt8)) (pos : Nat) (f : Int) (acc : List (List UInt8)) : Prop where
  le : pos ≤ s.length
  few : acc.length ≤ pos
  at' : (f = -1 ∧ WF1 (s.drop pos) false [] acc = some ws) ∨ ∃ m : Nat, f = m ∧ m < pos ∧ acc.length ≤ m ∧ WF1 (s.drop pos) false ((s.drop m).take (pos - m)) acc = some ws

theorem SplitSt.char {s : List UInt8} {ws : List (List UInt8)} {pos : Nat} {f : Int} {acc : List (List UInt8)} (h : SplitSt s ws pos f acc) (hp : pos < s.length) : charN (s.drop pos) ≠ 0 := by
  intro h0
  have hne : s.drop pos ≠ [] := by
    intro e
    have := congrArg List.length e
    simp at this
    omega
  have key : ∀ word, WF1 (s.drop pos) false word acc ≠ some ws := by
    intro word he
    have := (valid_words _ (s.drop pos) false word acc (Nat.le_refl _)).2 (by rw [he]; simp)
    rw [Lib.validD_step _ hne] at this
    rcases char_dec _ hne with ⟨_, h1⟩ | ⟨h1, _⟩
    · rw [h1] at this; simp at this
    · exact absurd h0 h1
  rcases h.at' with ⟨_, h1⟩ | ⟨m, _, _, _, h1⟩
  · exact key _ h1
  · exact key _ h1
theorem take_more (s : List UInt8) (m pos n : Nat) (h : m < pos) : (s.drop m).take (pos - m) ++ (s.drop pos).take n = (s.drop m).take (pos + n - m) := by
  have e : s.drop pos = (s.drop m).drop (pos - m) := by rw [List.drop_drop]; congr 1; omega
  rw [e, show pos + n - m = (pos - m) + n by omega, List.take_add]
variable {s : List UInt8} {ws : List (List UInt8)} {pos : Nat} {acc : List (List UInt8)}
theorem charN_dle (hp : pos < s.length) : pos + charN (s.drop pos) ≤ s.length := by
  have := charN_le (s.drop pos)
  simp at this
  omega
/-- a blank, behind none -/
theorem SplitSt.blank0 (h : SplitSt s ws pos (-1) acc) (hp : pos < s.length) (h59 : ((s.drop pos).take (charN (s.drop pos)) == [59]) = false) (hb : blankB ((s.drop pos).take (charN (s.drop pos))) = true) : SplitSt s ws (pos + charN (s.drop pos)) (-1) acc := by
  have hc := h.char hp
  rcases h.at' with ⟨_, h1⟩ | ⟨m, h1, _⟩
  · rw [WF1_char _ _ false [] acc rfl hc, h59, hb] at h1
    simp only [Bool.false_or, if_true, List.drop_drop] at h1
    exact ⟨charN_dle hp, by have := h.few; omega, .inl ⟨rfl, h1⟩⟩
  · omega
/-- a blank behind a word -/
theorem SplitSt.blank1 {m : Nat} (h : SplitSt s ws pos m acc) (hp : pos < s.length) (h59 : ((s.drop pos).take (charN (s.drop pos)) == [59]) = false) (hb : blankB ((s.drop pos).take (charN (s.drop pos))) = true) : m < pos ∧ SplitSt s ws (pos + charN (s.drop pos)) (-1) (acc ++ [(s.drop m).take (pos - m)]) := by
  have hc := h.char hp
  rcases h.at' with ⟨h1, _⟩ | ⟨k, h1, h2, h3, h4⟩
  · omega
  · obtain rfl : m = k := by omega
    rw [WF1_char _ _ false _ acc rfl hc, h59, hb] at h4
    have hw : (s.drop m).take (pos - m) ≠ [] := by
      intro e
      have := congrArg List.length e
      simp at this
      omega
    simp only [Bool.false_or, if_true, List.drop_drop, pushW_clean hw] at h4
    exact ⟨h2, charN_dle hp, by simp; omega, .inl ⟨rfl, h4⟩⟩
/-- a comment, behind no word -/
theorem SplitSt.semi0 (h : SplitSt s ws pos (-1) acc) (hp : pos < s.length) (h59 : ((s.drop pos).take (charN (s.drop pos)) == [59]) = true) : ws = acc := by
  have hc := h.char hp
  rcases h.at' with ⟨_, h1⟩ | ⟨m, h1, _⟩
  · rw [WF1_char _ _ false [] acc rfl hc, h59] at h1
    simp only [Bool.false_or, Bool.true_or, if_true, List.drop_drop] at h1
    exact WF1_over_any _ _ acc ws (Nat.le_refl _) h1
  · omega
theorem SplitSt.semi1 {m : Nat} (h : SplitSt s ws pos m acc) (hp : pos < s.length) (h59 : ((s.drop pos).take (charN (s.drop pos)) == [59]) = true) : m < pos ∧ ws = acc ++ [(s.drop m).take (pos - m)] := by
  have hc := h.char hp
  rcases h.at' with ⟨h1, _⟩ | ⟨k, h1, h2, h3, h4⟩
  · omega
  · obtain rfl : m = k := by omega
    rw [WF1_char _ _ false _ acc rfl hc, h59] at h4
    have hw : (s.drop m).take (pos - m) ≠ [] := by
      intro e
      have := congrArg List.length e
      simp at this
      omega
    simp only [Bool.false_or, Bool.true_or, if_true, List.drop_drop, pushW_clean hw] at h4
    exact ⟨h2, WF1_over_any _ _ _ ws (Nat.le_refl _) h4⟩
/-- another character -/
theorem SplitSt.on0 (h : SplitSt s ws pos (-1) acc) (hp : pos < s.length) (h59 : ((s.drop pos).take (charN (s.drop pos)) == [59]) = false) (hb : blankB ((s.drop pos).take (charN (s.drop pos))) = false) : SplitSt s ws (pos + charN (s.drop pos)) (pos : Nat) acc := by
  have hc := h.char hp
  rcases h.at' with ⟨_, h1⟩ | ⟨m, h1, _⟩
  · rw [WF1_char _ _ false [] acc rfl hc, h59, hb] at h1
    simp only [Bool.false_or, Bool.false_eq_true, if_false, List.drop_drop, List.nil_append] at h1
    refine ⟨charN_dle hp, by have := h.few; omega, .inr ⟨pos, rfl, by omega, h.few, ?_⟩⟩
    rw [show pos + charN (s.drop pos) - pos = charN (s.drop pos) by omega]
    exact h1
  · omega
theorem SplitSt.on1 {m : Nat} (h : SplitSt s ws pos m acc) (hp : pos < s.length) (h59 : ((s.drop pos).take (charN (s.drop pos)) == [59]) = false) (hb : blankB ((s.drop pos).take (charN (s.drop pos))) = false) : SplitSt s ws (pos + charN (s.drop pos)) m acc := by
  have hc := h.char hp
  rcases h.at' with ⟨h1, _⟩ | ⟨k, h1, h2, h3, h4⟩
  · omega
  · obtain rfl : m = k := by omega
    rw [WF1_char _ _ false _ acc rfl hc, h59, hb] at h4
    simp only [Bool.false_or, Bool.false_eq_true, if_false, List.drop_drop, take_more s m pos _ h2] at h4
    exact ⟨charN_dle hp, by have := h.few; omega, .inr ⟨m, rfl, by omega, h3, h4⟩⟩
/-- the end -/
theorem SplitSt.end0 (h : SplitSt s ws pos (-1) acc) (hp : ¬ pos < s.length) : ws = acc := by
  have hd : s.drop pos = [] := List.drop_of_length_le (by omega)
  rcases h.at' with ⟨_, h1⟩ | ⟨m, h1, _⟩
  · rw [hd, WF1_nil] at h1
    exact (Option.some.inj h1).symm
  · omega
theorem SplitSt.end1 {m : Nat} (h : SplitSt s ws pos m acc) (hp : ¬ pos < s.length) : m < pos ∧ ws = acc ++ [(s.drop m).take (pos - m)] := by
  have hd : s.drop pos = [] := List.drop_of_length_le (by omega)
  rcases h.at' with ⟨h1, _⟩ | ⟨k, h1, h2, h3, h4⟩
  · omega
  · obtain rfl : m = k := by omega
    rw [hd, WF1_nil] at h4
    have hw : (s.drop m).take (pos - m) ≠ [] := by
      intro e
      have := congrArg List.length e
      simp at this
      have := h.le
      omega
    rw [pushW_clean hw] at h4
    exact ⟨h2, (Option.some.inj h4).symm⟩
theorem SplitSt.start (h : wordsL s = some ws) : SplitSt s ws 0 (-1) [] := ⟨Nat.zero_le _, Nat.le_refl _, .inl ⟨rfl, by rw [List.drop_zero]; exact h⟩⟩
theorem SplitSt.f {f : Int} (h : SplitSt s ws pos f acc) : f = -1 ∨ ∃ m : Nat, f = m ∧ m < pos := by
  rcases h.at' with ⟨h1, _⟩ | ⟨m, h1, h2, _⟩
  · exact .inl h1
  · exact .inr ⟨m, h1, h2⟩
end Go.Proofs.YtakcdecljfmckaaGreatDoor

namespace Go.Proofs.YtakcdecljfmckaaGreatDoor

theorem splitK_ne (sep : List UInt8) (save k : Nat) (s : List UInt8) : ∃ x r, Lib.splitK sep save k s = x :: r := by
  cases k with
  | zero => exact ⟨_, _, rfl⟩
  | succ k =>
    unfold Lib.splitK
    split
    · exact ⟨_, _, rfl⟩
    · exact ⟨_, _, rfl⟩
theorem splitF_K : ∀ (s cur : List UInt8), ∃ x r, Lib.splitK [10] 0 (Lib.count s [10]) s = x :: r ∧ splitF s cur = (cur ++ x) :: r
  | [], cur => ⟨[], [], rfl, by simp [splitF]⟩
  | c :: s, cur => by
    by_cases hc : c = 10
    · subst hc
      obtain ⟨x, r, h1, h2⟩ := splitF_K s []
      refine ⟨[], x :: r, ?_, ?_⟩
      · rw [Lib.count_cons_eq, Nat.add_comm]
        have hi : Lib.index (10 :: s) [10] = 0 := by unfold Lib.index; simp
        unfold Lib.splitK
        rw [hi, if_neg (by decide)]
        simp only [Int.toNat_zero, Nat.zero_add, List.take_zero, List.length_singleton, List.drop_succ_cons, List.drop_zero]
        rw [h1]
      · rw [splitF, if_pos rfl, h2]
        simp
    · obtain ⟨x, r, h1, h2⟩ := splitF_K s (cur ++ [c])
      refine ⟨c :: x, r, ?_, ?_⟩
      · rw [Lib.count_cons_ne c 10 s hc]
        cases hk : Lib.count s [10] with
        | zero =>
          rw [hk] at h1
          have h1' : [s] = x :: r := h1
          simp only [List.cons.injEq] at h1'
          obtain ⟨rfl, rfl⟩ := h1'
          rfl
        | succ k =>
          rw [hk] at h1
          obtain ⟨i, hi⟩ := Lib.index_of_count (s := s) (old := [10]) (by omega)
          have hni : ¬ ((i : Int) == -1) = true := by rw [beq_iff_eq]; omega
          have hi2 : Lib.index (c :: s) [10] = ((i + 1 : Nat) : Int) := by
            unfold Lib.index
            rw [if_neg (by simp [List.isPrefixOf]; exact fun e => hc e.symm), hi, if_neg hni]
            rfl
          unfold Lib.splitK at h1 ⊢
          rw [hi, if_neg hni] at h1
          have hni2 : ¬ (((i + 1 : Nat) : Int) == -1) = true := by rw [beq_iff_eq]; omega
          rw [hi2, if_neg hni2]
          simp only [Int.toNat_natCast, Nat.add_zero, List.length_singleton, List.cons.injEq, List.take_succ_cons, List.drop_succ_cons, true_and] at h1 ⊢
          exact h1
      · rw [splitF, if_neg hc, h2]
        simp
theorem lines_split (s : ByteArray) : (Lib.splitB ⟨#[10]⟩ 0 (Lib.countB s ⟨#[10]⟩) s).map (·.data.toList) = splitL s.data.toList := by
  rw [Lib.splitB_data]
  obtain ⟨x, r, h1, h2⟩ := splitF_K s.data.toList []
  have : Lib.countB s ⟨#[10]⟩ = Lib.count s.data.toList [10] := rfl
  rw [this]
  show Lib.splitK [10] 0 _ _ = _
  rw [h1]
  unfold splitL
  rw [h2]
  rfl
theorem splitF_len : ∀ (s cur : List UInt8), (splitF s cur).length ≤ s.length + 1
  | [], cur => by simp [splitF]
  | c :: s, cur => by
    unfold splitF
    split
    · have := splitF_len s []; simp; omega
    · have := splitF_len s (cur ++ [c]); simp; omega
theorem splitF_le : ∀ (s cur t : List UInt8), t ∈ splitF s cur → t.length ≤ cur.length + s.length
  | [], cur, t, h => by simp [splitF] at h; subst h; simp
  | c :: s, cur, t, h => by
    unfold splitF at h
    split at h
    · rcases List.mem_cons.1 h with rfl | h
      · simp
      · have := splitF_le s [] t h; simp at this ⊢; omega
    · have := splitF_le s (cur ++ [c]) t h; simp at this ⊢; omega
end Go.Proofs.YtakcdecljfmckaaGreatDoor

namespace Go.Proofs.YtakcdecljfmckaaGreatDoor

theorem pushW_mem {word t : List UInt8} {acc : List (List UInt8)} (h : t ∈ pushW word acc) : t ∈ acc ∨ t = word := by
  unfold pushW at h
  split at h
  · exact .inl h
  · rcases List.mem_append.1 h with h | h
    · exact .inl h
    · exact .inr (List.mem_singleton.1 h)
theorem pushW_len (word : List UInt8) (acc : List (List UInt8)) : (pushW word acc).length ≤ acc.length + 1 := by
  unfold pushW
  split
  · omega
  · simp
theorem wordsF_le : ∀ (k : Nat) (s : List UInt8) (over : Bool) (word : List UInt8) (acc ws : List (List UInt8)), wordsF k s over word acc = some ws →
    (∀ t ∈ ws, t ∈ acc ∨ t.length ≤ word.length + s.length) ∧ ws.length ≤ acc.length + k + 1
  | 0, s, over, word, acc, ws, h => by
    unfold wordsF at h
    split at h
    · obtain rfl := Option.some.inj h
      refine ⟨fun t ht => ?_, by have := pushW_len word acc; omega⟩
      rcases pushW_mem ht with h1 | rfl
      · exact .inl h1
      · exact .inr (by omega)
    · cases h
  | k + 1, s, over, word, acc, ws, h => by
    unfold wordsF at h
    split at h
    · obtain rfl := Option.some.inj h
      refine ⟨fun t ht => ?_, by have := pushW_len word acc; omega⟩
      rcases pushW_mem ht with h1 | rfl
      · exact .inl h1
      · exact .inr (by omega)
    · split at h
      · cases h
      · have hd : (s.drop (charN s)).length ≤ s.length := by rw [List.length_drop]; omega
        split at h
        · obtain ⟨h1, h2⟩ := wordsF_le k _ _ _ _ ws h
          refine ⟨fun t ht => ?_, by have := pushW_len word acc; omega⟩
          rcases h1 t ht with h3 | h3
          · rcases pushW_mem h3 with h4 | rfl
            · exact .inl h4
            · exact .inr (by omega)
          · exact .inr (by simp at h3 hd ⊢; omega)
        · obtain ⟨h1, h2⟩ := wordsF_le k _ _ _ _ ws h
          refine ⟨fun t ht => ?_, by omega⟩
          rcases h1 t ht with h3 | h3
          · exact .inl h3
          · exact .inr (by rw [List.length_append, List.length_take, List.length_drop] at h3; omega)
theorem wordsL_le {s : List UInt8} {ws : List (List UInt8)} (h : wordsL s = some ws) : (∀ t ∈ ws, t.length ≤ s.length) ∧ ws.length ≤ s.length + 1 := by
  obtain ⟨h1, h2⟩ := wordsF_le _ _ _ _ _ _ h
  refine ⟨fun t ht => ?_, by simpa using h2⟩
  rcases h1 t ht with h3 | h3
  · cases h3
  · simpa using h3
end Go.Proofs.YtakcdecljfmckaaGreatDoor

namespace Go.Proofs.YtakcdecljfmckaaGreatDoor
open Go.ChangeShapes Go.WideShapes Go.ChangeAt Go.RowKit Go.Deep

theorem rows_open {w : World} {a : Addr} {α : Type} (size : Nat) (cells : α → List Value) (P : α → Prop) (hcl : ∀ x, (cells x).length = size) : ∀ (len : Nat) (_ : ∀ i, i < len → ∃ x, P x ∧ ∀ c v, (cells x)[c]? = some v → w.cell? (a.add (i * size + c)) = some v),
    ∃ l : List α, l.length = len ∧ (∀ x ∈ l, P x) ∧ ∀ j v, (l.flatMap cells)[j]? = some v → w.cell? (a.add j) = some v
  | 0, _ => ⟨[], rfl, by simp, by simp⟩
  | len + 1, h => by
    obtain ⟨l, hl, hp, hc⟩ := rows_open size cells P hcl len (fun i hi => h i (by omega))
    obtain ⟨x, hx, hxc⟩ := h len (by omega)
    have hfl : (l.flatMap cells).length = len * size := by
      rw [← hl]
      clear hc hp hl
      induction l with
      | nil => simp
      | cons y l ih => rw [List.flatMap_cons, List.length_append, ih, hcl, List.length_cons, Nat.succ_mul]; omega
    refine ⟨l ++ [x], by simp [hl], fun y hy => ?_, fun j v hj => ?_⟩
    · rcases List.mem_append.1 hy with hy | hy
      · exact hp y hy
      · rw [List.mem_singleton.1 hy]; exact hx
    · rw [List.flatMap_append] at hj
      simp only [List.flatMap_cons, List.flatMap_nil, List.append_nil] at hj
      by_cases hlt : j < len * size
      · rw [List.getElem?_append_left (by rw [hfl]; exact hlt)] at hj
        exact hc j v hj
      · rw [List.getElem?_append_right (by rw [hfl]; omega), hfl] at hj
        have := hxc _ v hj
        rwa [show len * size + (j - len * size) = j by omega] at this

set_option maxRecDepth 100000 in
theorem slice_cells {w : World} {r : Reach} {b : Nat} {v : Value} {t e : TypeId} (ht : Tryz.prog.underlying t = some (.slice e)) (h : Value.okWide Tryz.prog w r b t v) : v.cells.toList = [v] := by
  obtain ⟨a, n, c, rfl⟩ := okWide_slice ht h
  rfl

/-- a slice's value, and its cells -/
def CellsIn (w : World) (v : Value) (n : Nat) (cs : List Value) : Prop := (n = 0 ∧ ∃ a c, v = .slice a 0 c) ∨ ∃ g off cap, v = .slice (some ⟨g, off, none⟩) n cap ∧ CellsAt w g off cs

theorem cellsIn_of {α : Type} {w : World} {a : Addr} {cap size : Nat} {cells : α → List Value} {l : List α} (hcl : ∀ x, (cells x).length = size) (h0 : 0 < size) (h : ∀ j v, (l.flatMap cells)[j]? = some v → w.cell? (a.add j) = some v) :
    CellsIn w (.slice (some a) l.length cap) l.length (l.flatMap cells) := by
  cases l with
  | nil => exact .inl ⟨rfl, _, _, rfl⟩
  | cons x l =>
    obtain ⟨u, hu⟩ : ∃ u, ((x :: l).flatMap cells)[0]? = some u := by
      refine ⟨_, List.getElem?_eq_getElem ?_⟩
      rw [List.flatMap_cons, List.length_append, hcl]; omega
    obtain ⟨b, off, spot⟩ := a
    have hspot : spot = none := by simpa [Addr.add] using World.cell?_spot (h 0 u hu)
    subst hspot
    exact .inr ⟨b, off, cap, rfl, fun j v hj => by rw [← addr_add]; exact h j v hj⟩

end Go.Proofs.YtakcdecljfmckaaGreatDoor
