/- Arguments that are slices, opened element by element. -/
import Derived.Test.YtlinnhaodkiolaaRows
import Derived.Test.YtlinnhaodkiolaaBase
import Derived.ProofKit
import Derived.OpenShut
import Derived.Deep.Slices
namespace Go.Proofs.Ytlinnhaodkiolaa
open Go.ChangeShapes Go.WideShapes Go.ChangeAt Go.RowKit Go.Deep

theorem rows_open {w : World} {a : Addr} {α : Type} (size : Nat) (cells : α → List Value) (P : α → Prop) (hcl : ∀ x, (cells x).length = size) : ∀ (len : Nat) (_ : ∀ i, i < len → ∃ x, P x ∧ ∀ c v, (cells x)[c]? = some v → w.cell? (a.add (i * size + c)) = some v),
    ∃ l : List α, l.length = len ∧ (∀ x ∈ l, P x) ∧ ∀ j v, (l.flatMap cells)[j]? = some v → w.cell? (a.add j) = some v
  | 0, _ => ⟨[], rfl, by simp, by simp⟩
  | len + 1, h => by
    obtain ⟨l, hl, hp, hc⟩ := rows_open size cells P hcl len (fun i hi => h i (by omega))
    obtain ⟨x, hx, hxc⟩ := h len (by omega)
    have hfl : (l.flatMap cells).length = len * size := by
      rw [← hl]
      clear hc hp hl
      induction l with
      | nil => simp
      | cons y l ih => rw [List.flatMap_cons, List.length_append, ih, hcl, List.length_cons, Nat.succ_mul]; omega
    refine ⟨l ++ [x], by simp [hl], fun y hy => ?_, fun j v hj => ?_⟩
    · rcases List.mem_append.1 hy with hy | hy
      · exact hp y hy
      · rw [List.mem_singleton.1 hy]; exact hx
    · rw [List.flatMap_append] at hj
      simp only [List.flatMap_cons, List.flatMap_nil, List.append_nil] at hj
      by_cases hlt : j < len * size
      · rw [List.getElem?_append_left (by rw [hfl]; exact hlt)] at hj
        exact hc j v hj
      · rw [List.getElem?_append_right (by rw [hfl]; omega), hfl] at hj
        have := hxc _ v hj
        rwa [show len * size + (j - len * size) = j by omega] at this

set_option maxRecDepth 100000 in
theorem slice_cells {w : World} {r : Reach} {b : Nat} {v : Value} {t e : TypeId} (ht : Try.prog.underlying t = some (.slice e)) (h : Value.okWide Try.prog w r b t v) : v.cells.toList = [v] := by
  obtain ⟨a, n, c, rfl⟩ := okWide_slice ht h
  rfl

/-- a slice's value, and its cells -/
def CellsIn (w : World) (v : Value) (n : Nat) (cs : List Value) : Prop := (n = 0 ∧ ∃ a c, v = .slice a 0 c) ∨ ∃ g off cap, v = .slice (some ⟨g, off, none⟩) n cap ∧ CellsAt w g off cs

theorem cellsIn_of {α : Type} {w : World} {a : Addr} {cap size : Nat} {cells : α → List Value} {l : List α} (hcl : ∀ x, (cells x).length = size) (h0 : 0 < size) (h : ∀ j v, (l.flatMap cells)[j]? = some v → w.cell? (a.add j) = some v) :
    CellsIn w (.slice (some a) l.length cap) l.length (l.flatMap cells) := by
  cases l with
  | nil => exact .inl ⟨rfl, _, _, rfl⟩
  | cons x l =>
    obtain ⟨u, hu⟩ : ∃ u, ((x :: l).flatMap cells)[0]? = some u := by
      refine ⟨_, List.getElem?_eq_getElem ?_⟩
      rw [List.flatMap_cons, List.length_append, hcl]; omega
    obtain ⟨b, off, spot⟩ := a
    have hspot : spot = none := by simpa [Addr.add] using World.cell?_spot (h 0 u hu)
    subst hspot
    exact .inr ⟨b, off, cap, rfl, fun j v hj => by rw [← addr_add]; exact h j v hj⟩

end Go.Proofs.Ytlinnhaodkiolaa
