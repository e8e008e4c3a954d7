/- The cells of a region among regions. -/
import Derived.Test.YtlinnhaodkiolaaNew2
namespace Go.Proofs.Ytlinnhaodkiolaa
open Go.RowKit

/-- a region's three cells -/
theorem areg_cells {w : World} {g off : Nat} {m : List Reg} (h : CellsAt w g off (aflat m)) {k : Nat} {r : Reg} (hr : m[k]? = some r) :
    w.cell? ⟨g, off + k * 3, none⟩ = some (.int .u64 r.base) ∧ w.cell? ⟨g, off + k * 3 + 1, none⟩ = some (.string ⟨r.data.toArray⟩) ∧ w.cell? ⟨g, off + k * 3 + 2, none⟩ = some (.bool r.free) := by
  obtain ⟨hk, hx⟩ := List.getElem?_eq_some_iff.1 hr
  have c0 := h (k * 3 + 0) _ (aflat_get m k 0 hk (by omega))
  have c1 := h (k * 3 + 1) _ (aflat_get m k 1 hk (by omega))
  have c2 := h (k * 3 + 2) _ (aflat_get m k 2 hk (by omega))
  rw [hx] at c0 c1 c2
  exact ⟨c0, c1, c2⟩

theorem areg_cells0 {w : World} {g : Nat} {m : List Reg} (h : CellsAt w g 0 (aflat m)) {k : Nat} {r : Reg} (hr : m[k]? = some r) :
    w.cell? ⟨g, k * 3, none⟩ = some (.int .u64 r.base) ∧ w.cell? ⟨g, k * 3 + 1, none⟩ = some (.string ⟨r.data.toArray⟩) ∧ w.cell? ⟨g, k * 3 + 2, none⟩ = some (.bool r.free) := by
  have := areg_cells h hr
  simpa using this

end Go.Proofs.Ytlinnhaodkiolaa
