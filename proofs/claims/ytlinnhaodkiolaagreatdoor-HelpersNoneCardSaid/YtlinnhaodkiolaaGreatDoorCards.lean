/-
  DERIVED. GIVEN WITH THE SEED: THE CARDS: each row of YtlinnhaodkiolaaGreatDoorRows.lean that lists a variable, with what it lists TIED to the program's text (the seventh form; the later family's looks); each row that meets fmt, with fmt's text TOLD by the authors' own Lean function (tested against real Go, not proved from fmt's source: count such statements apart). THE CARD IS WHAT COUNTS. Prove the row's statement (the work); the ties are given (YtlinnhaodkiolaaGreatDoorTie.lean); close each card by the builder's one call (the guide's Derived/Test/ToyasCard.lean, 'card_holds'). Laid BY PROGRAM, IN A SANDBOX (cutbox-door.mjs). By AI agents, Wed Nov 11 2026. No macro, syntax, notation, axiom, sorry.
-/
import Derived.Test.YtlinnhaodkiolaaGreatDoorRows
import GoSem.ClaimSeven
namespace Go.Proofs.YtlinnhaodkiolaaGreatDoor
namespace Rows

/-- THE TIED CARD OF 'firewalllaw09.HelpersNone'. -/
def helpersNoneCard : Claim7 := { stood := { row := helpersNoneRow, standIns := [], harness := (true, "d604e2c5d05b1f2141aa3592f3252ff1463f676b4756890666a438e8ce71ea1a"), looks := true }, kinds := [], alts := [], laidByText := true, laidKinds := [.mapped], laidTests := true, laidLooks := .later }
def HelpersNoneCardSaid : Prop := Claim7.holds Tryz.pinned (.plain (OpenSpec.ofChange helpersNoneSpec)) helpersNoneCard

/-- THE SECOND FORM's CARD OF 'firewalllaw09.HelpersNone'. -/
def helpersNoneUptoCard : Claim7 := { stood := { row := helpersNoneUptoRow, standIns := [], harness := (true, "d604e2c5d05b1f2141aa3592f3252ff1463f676b4756890666a438e8ce71ea1a"), looks := true }, kinds := [], alts := [], laidByText := true, laidKinds := [.mapped], laidTests := true, laidLooks := .later }
def HelpersNoneUptoCardSaid : Prop := Claim7.holds Tryz.pinned (.plain (OpenSpec.upto helpersNoneSpec)) helpersNoneUptoCard
end Rows
end Go.Proofs.YtlinnhaodkiolaaGreatDoor
