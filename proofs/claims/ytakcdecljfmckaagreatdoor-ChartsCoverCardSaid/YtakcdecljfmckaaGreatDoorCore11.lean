/- a text's lines, by strings.Split. how long a line's words are, and how many. Arguments that are slices, opened element by element. -/
import Derived.Test.YtakcdecljfmckaaGreatDoorCore1
import Derived.Lib.SplitLaws
import Derived.Lib.IndexBytes
import Derived.Lib.Split
import Derived.Lib.CountLaws
import Derived.Lib.Replace
import Derived.Test.YtakcdecljfmckaaGreatDoorRows
import Derived.ProofKit
import Derived.OpenShut
import Derived.Deep.Slices
set_option linter.all false
set_option linter.unusedVariables false
set_option linter.unusedSimpArgs false
namespace Go.Proofs.YtakcdecljfmckaaGreatDoor

theorem splitK_ne (sep : List UInt8) (save k : Nat) (s : List UInt8) : ∃ x r, Lib.splitK sep save k s = x :: r := by
  cases k with
  | zero => exact ⟨_, _, rfl⟩
  | succ k =>
    unfold Lib.splitK
    split
    · exact ⟨_, _, rfl⟩
    · exact ⟨_, _, rfl⟩
theorem splitF_K : ∀ (s cur : List UInt8), ∃ x r, Lib.splitK [10] 0 (Lib.count s [10]) s = x :: r ∧ splitF s cur = (cur ++ x) :: r
  | [], cur => ⟨[], [], rfl, by simp [splitF]⟩
  | c :: s, cur => by
    by_cases hc : c = 10
    · subst hc
      obtain ⟨x, r, h1, h2⟩ := splitF_K s []
      refine ⟨[], x :: r, ?_, ?_⟩
      · rw [Lib.count_cons_eq, Nat.add_comm]
        have hi : Lib.index (10 :: s) [10] = 0 := by unfold Lib.index; simp
        unfold Lib.splitK
        rw [hi, if_neg (by decide)]
        simp only [Int.toNat_zero, Nat.zero_add, List.take_zero, List.length_singleton, List.drop_succ_cons, List.drop_zero]
        rw [h1]
      · rw [splitF, if_pos rfl, h2]
        simp
    · obtain ⟨x, r, h1, h2⟩ := splitF_K s (cur ++ [c])
      refine ⟨c :: x, r, ?_, ?_⟩
      · rw [Lib.count_cons_ne c 10 s hc]
        cases hk : Lib.count s [10] with
        | zero =>
          rw [hk] at h1
          have h1' : [s] = x :: r := h1
          simp only [List.cons.injEq] at h1'
          obtain ⟨rfl, rfl⟩ := h1'
          rfl
        | succ k =>
          rw [hk] at h1
          obtain ⟨i, hi⟩ := Lib.index_of_count (s := s) (old := [10]) (by omega)
          have hni : ¬ ((i : Int) == -1) = true := by rw [beq_iff_eq]; omega
          have hi2 : Lib.index (c :: s) [10] = ((i + 1 : Nat) : Int) := by
            unfold Lib.index
            rw [if_neg (by simp [List.isPrefixOf]; exact fun e => hc e.symm), hi, if_neg hni]
            rfl
          unfold Lib.splitK at h1 ⊢
          rw [hi, if_neg hni] at h1
          have hni2 : ¬ (((i + 1 : Nat) : Int) == -1) = true := by rw [beq_iff_eq]; omega
          rw [hi2, if_neg hni2]
          simp only [Int.toNat_natCast, Nat.add_zero, List.length_singleton, List.cons.injEq, List.take_succ_cons, List.drop_succ_cons, true_and] at h1 ⊢
          exact h1
      · rw [splitF, if_neg hc, h2]
        simp
theorem lines_split (s : ByteArray) : (Lib.splitB ⟨#[10]⟩ 0 (Lib.countB s ⟨#[10]⟩) s).map (·.data.toList) = splitL s.data.toList := by
  rw [Lib.splitB_data]
  obtain ⟨x, r, h1, h2⟩ := splitF_K s.data.toList []
  have : Lib.countB s ⟨#[10]⟩ = Lib.count s.data.toList [10] := rfl
  rw [this]
  show Lib.splitK [10] 0 _ _ = _
  rw [h1]
  unfold splitL
  rw [h2]
  rfl
theorem splitF_len : ∀ (s cur : List UInt8), (splitF s cur).length ≤ s.length + 1
  | [], cur => by simp [splitF]
  | c :: s, cur => by
    unfold splitF
    split
    · have := splitF_len s []; simp; omega
    · have := splitF_len s (cur ++ [c]); simp; omega
theorem splitF_le : ∀ (s cur t : List UInt8), t ∈ splitF s cur → t.length ≤ cur.length + s.length
  | [], cur, t, h => by simp [splitF] at h; subst h; simp
  | c :: s, cur, t, h => by
    unfold splitF at h
    split at h
    · rcases List.mem_cons.1 h with rfl | h
      · simp
      · have := splitF_le s [] t h; simp at this ⊢; omega
    · have := splitF_le s (cur ++ [c]) t h; simp at this ⊢; omega
end Go.Proofs.YtakcdecljfmckaaGreatDoor

namespace Go.Proofs.YtakcdecljfmckaaGreatDoor

theorem pushW_mem {word t : List UInt8} {acc : List (List UInt8)} (h : t ∈ pushW word acc) : t ∈ acc ∨ t = word := by
  unfold pushW at h
  split at h
  · exact .inl h
  · rcases List.mem_append.1 h with h | h
    · exact .inl h
    · exact .inr (List.mem_singleton.1 h)
theorem pushW_len (word : List UInt8) (acc : List (List UInt8)) : (pushW word acc).length ≤ acc.length + 1 := by
  unfold pushW
  split
  · omega
  · simp
theorem wordsF_le : ∀ (k : Nat) (s : List UInt8) (over : Bool) (word : List UInt8) (acc ws : List (List UInt8)), wordsF k s over word acc = some ws →
    (∀ t ∈ ws, t ∈ acc ∨ t.length ≤ word.length + s.length) ∧ ws.length ≤ acc.length + k + 1
  | 0, s, over, word, acc, ws, h => by
    unfold wordsF at h
    split at h
    · obtain rfl := Option.some.inj h
      refine ⟨fun t ht => ?_, by have := pushW_len word acc; omega⟩
      rcases pushW_mem ht with h1 | rfl
      · exact .inl h1
      · exact .inr (by omega)
    · cases h
  | k + 1, s, over, word, acc, ws, h => by
    unfold wordsF at h
    split at h
    · obtain rfl := Option.some.inj h
      refine ⟨fun t ht => ?_, by have := pushW_len word acc; omega⟩
      rcases pushW_mem ht with h1 | rfl
      · exact .inl h1
      · exact .inr (by omega)
    · split at h
      · cases h
      · have hd : (s.drop (charN s)).length ≤ s.length := by rw [List.length_drop]; omega
        split at h
        · obtain ⟨h1, h2⟩ := wordsF_le k _ _ _ _ ws h
          refine ⟨fun t ht => ?_, by have := pushW_len word acc; omega⟩
          rcases h1 t ht with h3 | h3
          · rcases pushW_mem h3 with h4 | rfl
            · exact .inl h4
            · exact .inr (by omega)
          · exact .inr (by simp at h3 hd ⊢; omega)
        · obtain ⟨h1, h2⟩ := wordsF_le k _ _ _ _ ws h
          refine ⟨fun t ht => ?_, by omega⟩
          rcases h1 t ht with h3 | h3
          · exact .inl h3
          · exact .inr (by rw [List.length_append, List.length_take, List.length_drop] at h3; omega)
theorem wordsL_le {s : List UInt8} {ws : List (List UInt8)} (h : wordsL s = some ws) : (∀ t ∈ ws, t.length ≤ s.length) ∧ ws.length ≤ s.length + 1 := by
  obtain ⟨h1, h2⟩ := wordsF_le _ _ _ _ _ _ h
  refine ⟨fun t ht => ?_, by simpa using h2⟩
  rcases h1 t ht with h3 | h3
  · cases h3
  · simpa using h3
end Go.Proofs.YtakcdecljfmckaaGreatDoor

namespace Go.Proofs.YtakcdecljfmckaaGreatDoor
open Go.ChangeShapes Go.WideShapes Go.ChangeAt Go.RowKit Go.Deep

theorem rows_open {w : World} {a : Addr} {α : Type} (size : Nat) (cells : α → List Value) (P : α → Prop) (hcl : ∀ x, (cells x).length = size) : ∀ (len : Nat) (_ : ∀ i, i < len → ∃ x, P x ∧ ∀ c v, (cells x)[c]? = some v → w.cell? (a.add (i * size + c)) = some v),
    ∃ l : List α, l.length = len ∧ (∀ x ∈ l, P x) ∧ ∀ j v, (l.flatMap cells)[j]? = some v → w.cell? (a.add j) = some v
  | 0, _ => ⟨[], rfl, by simp, by simp⟩
  | len + 1, h => by
    obtain ⟨l, hl, hp, hc⟩ := rows_open size cells P hcl len (fun i hi => h i (by omega))
    obtain ⟨x, hx, hxc⟩ := h len (by omega)
    have hfl : (l.flatMap cells).length = len * size := by
      rw [← hl]
      clear hc hp hl
      induction l with
      | nil => simp
      | cons y l ih => rw [List.flatMap_cons, List.length_append, ih, hcl, List.length_cons, Nat.succ_mul]; omega
    refine ⟨l ++ [x], by simp [hl], fun y hy => ?_, fun j v hj => ?_⟩
    · rcases List.mem_append.1 hy with hy | hy
      · exact hp y hy
      · rw [List.mem_singleton.1 hy]; exact hx
    · rw [List.flatMap_append] at hj
      simp only [List.flatMap_cons, List.flatMap_nil, List.append_nil] at hj
      by_cases hlt : j < len * size
      · rw [List.getElem?_append_left (by rw [hfl]; exact hlt)] at hj
        exact hc j v hj
      · rw [List.getElem?_append_right (by rw [hfl]; omega), hfl] at hj
        have := hxc _ v hj
        rwa [show len * size + (j - len * size) = j by omega] at this

set_option maxRecDepth 100000 in
theorem slice_cells {w : World} {r : Reach} {b : Nat} {v : Value} {t e : TypeId} (ht : Tryz.prog.underlying t = some (.slice e)) (h : Value.okWide Tryz.prog w r b t v) : v.cells.toList = [v] := by
  obtain ⟨a, n, c, rfl⟩ := okWide_slice ht h
  rfl

/-- a slice's value, and its cells -/
def CellsIn (w : World) (v : Value) (n : Nat) (cs : List Value) : Prop := (n = 0 ∧ ∃ a c, v = .slice a 0 c) ∨ ∃ g off cap, v = .slice (some ⟨g, off, none⟩) n cap ∧ CellsAt w g off cs

theorem cellsIn_of {α : Type} {w : World} {a : Addr} {cap size : Nat} {cells : α → List Value} {l : List α} (hcl : ∀ x, (cells x).length = size) (h0 : 0 < size) (h : ∀ j v, (l.flatMap cells)[j]? = some v → w.cell? (a.add j) = some v) :
    CellsIn w (.slice (some a) l.length cap) l.length (l.flatMap cells) := by
  cases l with
  | nil => exact .inl ⟨rfl, _, _, rfl⟩
  | cons x l =>
    obtain ⟨u, hu⟩ : ∃ u, ((x :: l).flatMap cells)[0]? = some u := by
      refine ⟨_, List.getElem?_eq_getElem ?_⟩
      rw [List.flatMap_cons, List.length_append, hcl]; omega
    obtain ⟨b, off, spot⟩ := a
    have hspot : spot = none := by simpa [Addr.add] using World.cell?_spot (h 0 u hu)
    subst hspot
    exact .inr ⟨b, off, cap, rfl, fun j v hj => by rw [← addr_add]; exact h j v hj⟩

end Go.Proofs.YtakcdecljfmckaaGreatDoor
