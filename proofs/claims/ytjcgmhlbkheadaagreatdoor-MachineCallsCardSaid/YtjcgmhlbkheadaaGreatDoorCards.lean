/-
  DERIVED. GIVEN WITH THE SEED: THE CARDS: each row of YtjcgmhlbkheadaaGreatDoorRows.lean that lists a variable, with what it lists TIED to the program's text (the seventh form; the later family's looks); each row that meets fmt, with fmt's text TOLD by the authors' own Lean function (tested against real Go, not proved from fmt's source: count such statements apart). THE CARD IS WHAT COUNTS. Prove the row's statement (the work); the ties are given (YtjcgmhlbkheadaaGreatDoorTie.lean); close each card by the builder's one call (the guide's Derived/Test/ToyasCard.lean, 'card_holds'). Laid BY PROGRAM, IN A SANDBOX (cutbox-door.mjs). By AI agents, Wed Nov 11 2026. No macro, syntax, notation, axiom, sorry.
-/
import Derived.Test.YtjcgmhlbkheadaaGreatDoorRows
import GoSem.ClaimSeven
namespace Go.Proofs.YtjcgmhlbkheadaaGreatDoor
namespace Rows

/-- THE TIED CARD OF 'firewalllaw13.MachineStack'. -/
def machineStackCard : Claim7 := { stood := { row := machineStackRow, standIns := [], harness := (true, "ac208b2d75f6c8e3dc3ba89b427c559883458432815d11cfeb73282b4d294ce4"), looks := true }, kinds := [], alts := [], laidByText := true, laidKinds := [.data, .mapped, .mapped, .widerDeep, .mapped, .mapped, .mapped, .funcs, .data], laidTests := true, laidLooks := .later }
def MachineStackCardSaid : Prop := Claim7.holds Tryz.pinned (.plain (OpenSpec.ofChange machineStackSpec)) machineStackCard

/-- THE TIED CARD OF 'firewalllaw13.MachineCalls'. -/
def machineCallsCard : Claim7 := { stood := { row := machineCallsRow, standIns := [], harness := (true, "ac208b2d75f6c8e3dc3ba89b427c559883458432815d11cfeb73282b4d294ce4"), looks := true }, kinds := [], alts := [], laidByText := true, laidKinds := [.data, .mapped, .mapped, .widerDeep, .mapped, .mapped, .mapped, .funcs, .data], laidTests := true, laidLooks := .later }
def MachineCallsCardSaid : Prop := Claim7.holds Tryz.pinned (.plain (OpenSpec.ofChange machineCallsSpec)) machineCallsCard

/-- THE SECOND FORM's CARD OF 'firewalllaw13.MachineStack'. -/
def machineStackUptoCard : Claim7 := { stood := { row := machineStackUptoRow, standIns := [], harness := (true, "ac208b2d75f6c8e3dc3ba89b427c559883458432815d11cfeb73282b4d294ce4"), looks := true }, kinds := [], alts := [], laidByText := true, laidKinds := [.data, .mapped, .mapped, .widerDeep, .mapped, .mapped, .mapped, .funcs, .data], laidTests := true, laidLooks := .later }
def MachineStackUptoCardSaid : Prop := Claim7.holds Tryz.pinned (.plain (OpenSpec.upto machineStackSpec)) machineStackUptoCard

/-- THE SECOND FORM's CARD OF 'firewalllaw13.MachineCalls'. -/
def machineCallsUptoCard : Claim7 := { stood := { row := machineCallsUptoRow, standIns := [], harness := (true, "ac208b2d75f6c8e3dc3ba89b427c559883458432815d11cfeb73282b4d294ce4"), looks := true }, kinds := [], alts := [], laidByText := true, laidKinds := [.data, .mapped, .mapped, .widerDeep, .mapped, .mapped, .mapped, .funcs, .data], laidTests := true, laidLooks := .later }
def MachineCallsUptoCardSaid : Prop := Claim7.holds Tryz.pinned (.plain (OpenSpec.upto machineCallsSpec)) machineCallsUptoCard
end Rows
end Go.Proofs.YtjcgmhlbkheadaaGreatDoor
