/- The listed variable helpers.args: what a row's condition gives. -/
import Derived.Test.YtlinnhaodkiolaaDoorBundle13
import Derived.ProofKit
import Derived.LaidMore
import Derived.OpenShut
import Derived.Stop.Joined
namespace Go.Proofs.YtlinnhaodkiolaaDoor
open Go.ChangeShapes Go.WideShapes Go.ChangeAt Go.WideMaps Go.WideElems Go.RowKit

def laidA : List (String × DataW Unit) := [("firewall/helpers.args", Rows.laid_firewall_helpers_args)]
theorem gArgs : Tryd.prog.globalNamed "firewall/helpers.args" = some 0 := by kernel_rfl
theorem tArgs : (Tryd.prog.globals[0]?).map (·.type) = some 122 := by kernel_rfl

theorem door_met (os : Os) (args : Array Value) : laidMetH Tryd.prog laidA ((World.doorLaid Tryd.prog 400 os).forCall (fun _ _ => 0) ⟨#[], args, []⟩).memory :=
  laidMetH_of_parts3 (fuel := 8) (laidMet_of_run' 8 (by kernel_rfl) (by kernel_rfl)) (by kernel_rfl) (by kernel_rfl)

set_option maxRecDepth 100000 in
theorem of_laid {W : World} (h : laidMetH Tryd.prog laidA W) : ArgsAt W := by
  rw [MakeChecks.laidMetH_plain _ _ _ (by kernel_rfl)] at h
  obtain ⟨ps, ⟨g0, t0, cs0, f0, p0, q0, hg0, ht0, hv0, hd0, _⟩, _, _⟩ := h
  obtain rfl := Option.some.inj (gArgs.symm.trans hg0)
  obtain rfl := Option.some.inj (tArgs.symm.trans ht0)
  rcases open_map Tryd.underlying122 hd0 with ⟨_, hx⟩ | ⟨bm, es, clock, m, rfl, hcs, hb, _, F, hx⟩
  · simp [Rows.laid_firewall_helpers_args] at hx
  simp only [Prod.mk.injEq] at hx
  have hcell : W.cell? ⟨0, 0, none⟩ = some (.map (some bm)) := by
    have := World.var?_cell hg0 hv0 0
    rw [Array.eq_one_of_toList hcs] at this
    simpa using this
  refine ⟨bm, es.size, hcell, ?_⟩
  have := World.ownsMap_of_fit hb F (fun x _ z hz => elemAt_plainElem_int Tryd.underlying3 hz)
  rw [← hx.1] at this
  exact this
end Go.Proofs.YtlinnhaodkiolaaDoor
