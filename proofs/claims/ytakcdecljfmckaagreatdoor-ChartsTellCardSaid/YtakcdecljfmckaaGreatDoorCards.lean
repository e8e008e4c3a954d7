/-
  DERIVED. GIVEN WITH THE SEED: THE CARDS: each row of YtakcdecljfmckaaGreatDoorRows.lean that lists a variable, with what it lists TIED to the program's text (the seventh form; the later family's looks); each row that meets fmt, with fmt's text TOLD by the authors' own Lean function (tested against real Go, not proved from fmt's source: count such statements apart). THE CARD IS WHAT COUNTS. Prove the row's statement (the work); the ties are given (YtakcdecljfmckaaGreatDoorTie.lean); close each card by the builder's one call (the guide's Derived/Test/ToyasCard.lean, 'card_holds'). Laid BY PROGRAM, IN A SANDBOX (cutbox-door.mjs). By AI agents, Wed Nov 11 2026. No macro, syntax, notation, axiom, sorry.
-/
import Derived.Test.YtakcdecljfmckaaGreatDoorRows
import GoSem.ClaimSeven
namespace Go.Proofs.YtakcdecljfmckaaGreatDoor
namespace Rows

/-- THE TIED CARD OF 'firewalllaw31.ChartsTell'. -/
def chartsTellCard : Claim7 := { stood := { row := chartsTellRow, standIns := [], harness := (true, "23804d3286a53af7ff40e87f91ea5b16f96ab4c4fc5e054c7e2a911697cf8b3b"), looks := true }, kinds := [], alts := [], laidByText := true, laidKinds := [.data, .data, .data, .data, .sentinel, .sentinel, .widerDeep, .widerDeep, .mapped, .pinned], laidTests := true, laidLooks := .later }
def ChartsTellCardSaid : Prop := Claim7.holds Tryz.pinned (.plain (OpenSpec.ofChange chartsTellSpec)) chartsTellCard

/-- THE TIED CARD OF 'firewalllaw31.ChartsCover'. -/
def chartsCoverCard : Claim7 := { stood := { row := chartsCoverRow, standIns := [], harness := (true, "23804d3286a53af7ff40e87f91ea5b16f96ab4c4fc5e054c7e2a911697cf8b3b"), looks := true }, kinds := [], alts := [], laidByText := true, laidKinds := [.data, .data, .data, .data, .sentinel, .sentinel, .widerDeep, .widerDeep, .mapped, .pinned], laidTests := true, laidLooks := .later }
def ChartsCoverCardSaid : Prop := Claim7.holds Tryz.pinned (.plain (OpenSpec.ofChange chartsCoverSpec)) chartsCoverCard

/-- THE TIED CARD OF 'firewalllaw31.ChartsNear'. -/
def chartsNearCard : Claim7 := { stood := { row := chartsNearRow, standIns := [], harness := (true, "23804d3286a53af7ff40e87f91ea5b16f96ab4c4fc5e054c7e2a911697cf8b3b"), looks := true }, kinds := [], alts := [], laidByText := true, laidKinds := [.data, .data, .data, .data, .sentinel, .sentinel, .widerDeep, .widerDeep, .mapped, .pinned], laidTests := true, laidLooks := .later }
def ChartsNearCardSaid : Prop := Claim7.holds Tryz.pinned (.plain (OpenSpec.ofChange chartsNearSpec)) chartsNearCard

/-- THE SECOND FORM's CARD OF 'firewalllaw31.ChartsTell'. -/
def chartsTellUptoCard : Claim7 := { stood := { row := chartsTellUptoRow, standIns := [], harness := (true, "23804d3286a53af7ff40e87f91ea5b16f96ab4c4fc5e054c7e2a911697cf8b3b"), looks := true }, kinds := [], alts := [], laidByText := true, laidKinds := [.data, .data, .data, .data, .sentinel, .sentinel, .widerDeep, .widerDeep, .mapped, .pinned], laidTests := true, laidLooks := .later }
def ChartsTellUptoCardSaid : Prop := Claim7.holds Tryz.pinned (.plain (OpenSpec.upto chartsTellSpec)) chartsTellUptoCard

/-- THE SECOND FORM's CARD OF 'firewalllaw31.ChartsCover'. -/
def chartsCoverUptoCard : Claim7 := { stood := { row := chartsCoverUptoRow, standIns := [], harness := (true, "23804d3286a53af7ff40e87f91ea5b16f96ab4c4fc5e054c7e2a911697cf8b3b"), looks := true }, kinds := [], alts := [], laidByText := true, laidKinds := [.data, .data, .data, .data, .sentinel, .sentinel, .widerDeep, .widerDeep, .mapped, .pinned], laidTests := true, laidLooks := .later }
def ChartsCoverUptoCardSaid : Prop := Claim7.holds Tryz.pinned (.plain (OpenSpec.upto chartsCoverSpec)) chartsCoverUptoCard

/-- THE SECOND FORM's CARD OF 'firewalllaw31.ChartsNear'. -/
def chartsNearUptoCard : Claim7 := { stood := { row := chartsNearUptoRow, standIns := [], harness := (true, "23804d3286a53af7ff40e87f91ea5b16f96ab4c4fc5e054c7e2a911697cf8b3b"), looks := true }, kinds := [], alts := [], laidByText := true, laidKinds := [.data, .data, .data, .data, .sentinel, .sentinel, .widerDeep, .widerDeep, .mapped, .pinned], laidTests := true, laidLooks := .later }
def ChartsNearUptoCardSaid : Prop := Claim7.holds Tryz.pinned (.plain (OpenSpec.upto chartsNearSpec)) chartsNearUptoCard
end Rows
end Go.Proofs.YtakcdecljfmckaaGreatDoor
