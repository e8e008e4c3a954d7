/- Words in memory; strings.Join; lines.operand. -/
import Derived.Test.YthkdokkpiaaljaaGreatDoorCore8
set_option linter.all false
set_option linter.unusedVariables false
set_option linter.unusedSimpArgs false
namespace Go.Proofs.YthkdokkpiaaljaaGreatDoor
open Go.RowKit

theorem strs_length (l : List (List UInt8)) : (strs l).length = l.length := by simp [strs]
/-- words at a slice's value -/
def StrsAt (w : World) (v : Value) (l : List (List UInt8)) : Prop := (l = [] ∧ ∃ a c, v = .slice a 0 c) ∨ ∃ g off cap, v = .slice (some ⟨g, off, none⟩) l.length cap ∧ g < w.heap.size ∧ l.length ≤ cap ∧ CellsAt w g off (strs l)
theorem StrsAt.fr {w w' : World} {v : Value} {l : List (List UInt8)} (h : StrsAt w v l) (hf : Fr No w w') : StrsAt w' v l := by
  rcases h with h | ⟨g, off, cap, rfl, hlt, hcap, hc⟩
  · exact .inl h
  · exact .inr ⟨g, off, cap, rfl, by have := hf.size; omega, hcap, hf.cells hc id⟩
theorem StrsAt.form {w : World} {v : Value} {l : List (List UInt8)} (h : StrsAt w v l) : ∃ a c, v = .slice a l.length c := by
  rcases h with ⟨rfl, a, c, rfl⟩ | ⟨g, off, cap, rfl, _⟩
  · exact ⟨a, c, rfl⟩
  · exact ⟨_, _, rfl⟩
/-- words that were just built -/
theorem StrsAt.new (w : World) (l : List (List UInt8)) (t : TypeId) (vs : Array Value) (h : vs = (strs l).toArray) : StrsAt (w.alloc (.cells vs t)) (.slice (some ⟨w.heap.size, 0, none⟩) l.length l.length) l := by
  subst h
  exact .inr ⟨w.heap.size, 0, l.length, rfl, by simp, Nat.le_refl _, CellsAt.new w _ t⟩

theorem join_w : ∀ l : List (List UInt8), Lib.join l [32] = joinW l
  | [] => rfl
  | [a] => by simp [Lib.join, joinW]
  | a :: b :: l => by
    have := join_w (b :: l)
    simp [Lib.join, joinW] at this ⊢
    exact this
theorem join_any (v : Value) (l : List (List UInt8)) (w : World) (h : StrsAt w v l) (hl : l.length ≤ 100000) (hn : (joinW l).length ≤ 10000000) : Calls Tryz.prog 26 #[v, .string ⟨#[32]⟩] w fun e w' => e = .returned (.string (bA (joinW l))) ∧ Fr No w w' := by
  rcases h with ⟨rfl, a, c, rfl⟩ | ⟨g, off, cap, rfl, hlt, hcap, hc⟩
  · refine (Tryz.strings_Join_none a c ⟨#[32]⟩ w).mono ?_
    rintro e w' ⟨rfl, rfl⟩
    exact ⟨rfl, Fr.refl _ _⟩
  · have hm : (l.map bA).map (·.data.toList) = l := by
      rw [List.map_map]
      conv => rhs; rw [← List.map_id l]
      apply List.map_congr_left
      intro a _
      simp [bA]
    have := Tryz.strings_Join g off cap (l.map bA) ⟨#[32]⟩ w (fun j x hx => by
      have : (strs l)[j]? = some (.string x) := by
        simp only [strs, List.getElem?_map, Option.map_eq_some_iff] at hx ⊢
        obtain ⟨a, ha, rfl⟩ := hx
        exact ⟨a, ha, rfl⟩
      exact hc j _ this) hlt (by rw [List.length_map]; omega) (by rw [List.length_map]; exact hcap) (by
        rw [hm]
        show (Lib.join l [32]).length ≤ _
        rw [join_w]
        omega)
    rw [List.length_map] at this
    refine this.mono ?_
    rintro e w' ⟨rfl, hb⟩
    rw [hm]
    exact ⟨by show Ending.returned (.string ⟨(Lib.join l [32]).toArray⟩) = _; rw [join_w]; rfl, Fr.of_below hb⟩

theorem jumps_len (k : Nat) : ((jumpN[k]?).getD []).length ≤ 1000 := by
  rcases Nat.lt_or_ge k 14 with h | h
  · have : ∀ k, k < 14 → ((jumpN[k]?).getD []).length ≤ 1000 := by decide
    exact this k h
  · rw [List.getElem?_eq_none (by simp [jumpN]; omega)]; simp
theorem ariths_len (k : Nat) : ((arithN[k]?).getD []).length ≤ 1000 := by
  rcases Nat.lt_or_ge k 13 with h | h
  · have : ∀ k, k < 13 → ((arithN[k]?).getD []).length ≤ 1000 := by decide
    exact this k h
  · rw [List.getElem?_eq_none (by simp [arithN]; omega)]; simp
set_option maxRecDepth 100000 in
theorem operand_any (i : Ins) (hi : i.ok) (w : World) (ht : LT w) : Calls Tryz.prog 52 #[i.agg] w fun e w' => e = .returned (.string (bA (if regB i.op then regN i.src else itoaN i.imm))) ∧ Fr No w w' := by
  have HR := Lib.hid (fun W h => lreg_any i.src hi.src W h)
  have HN := Lib.hid (fun W h => num_i32 i.imm hi.imm W h)
  have HT : Hid (∀ W, Fr No w W → LT W) := fun W h => ht.fr h
  have p2 := and8n i.op hi.op
  clear ht hi
  unfold Ins.agg
  cases hr : regB i.op with
  | true =>
    rw [hr] at p2
    clear hr
    go_enter Tryz.func52, Tryz.ntmps52
    go_wp2_with (go_at_call 50; (with_reducible refine (HR.out _ (HT.out _ ((Fr.refl _ _).alloc _))).mono ?_); rintro e w1 ⟨rfl, hf1⟩)
    go_ret
    exact ⟨rfl, ((Fr.refl _ _).alloc _).trans hf1⟩
  | false =>
    rw [hr] at p2
    clear hr
    go_enter Tryz.func52, Tryz.ntmps52
    go_wp2_with (go_at_call 21; (with_reducible refine (HN.out _ (HT.out _ ((Fr.refl _ _).alloc _))).mono ?_); rintro e w1 ⟨rfl, hf1⟩)
    go_ret
    exact ⟨rfl, ((Fr.refl _ _).alloc _).trans hf1⟩
end Go.Proofs.YthkdokkpiaaljaaGreatDoor
