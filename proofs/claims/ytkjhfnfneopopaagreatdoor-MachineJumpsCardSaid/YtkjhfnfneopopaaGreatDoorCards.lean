/-
  DERIVED. GIVEN WITH THE SEED: THE CARDS: each row of YtkjhfnfneopopaaGreatDoorRows.lean that lists a variable, with what it lists TIED to the program's text (the seventh form; the later family's looks); each row that meets fmt, with fmt's text TOLD by the authors' own Lean function (tested against real Go, not proved from fmt's source: count such statements apart). THE CARD IS WHAT COUNTS. Prove the row's statement (the work); the ties are given (YtkjhfnfneopopaaGreatDoorTie.lean); close each card by the builder's one call (the guide's Derived/Test/ToyasCard.lean, 'card_holds'). Laid BY PROGRAM, IN A SANDBOX (cutbox-door.mjs). By AI agents, Wed Nov 11 2026. No macro, syntax, notation, axiom, sorry.
-/
import Derived.Test.YtkjhfnfneopopaaGreatDoorRows
import GoSem.ClaimSeven
namespace Go.Proofs.YtkjhfnfneopopaaGreatDoor
namespace Rows

/-- THE TIED CARD OF 'firewalllaw13.MachineNone'. -/
def machineNoneCard : Claim7 := { stood := { row := machineNoneRow, standIns := [], harness := (true, "4de62e4630f25e2fcffbcac007238ba733660fc1924dfb0a001923be9068df01"), looks := true }, kinds := [], alts := [], laidByText := true, laidKinds := [.data, .mapped, .mapped, .widerDeep, .mapped, .mapped, .mapped, .funcs, .data], laidTests := true, laidLooks := .later }
def MachineNoneCardSaid : Prop := Claim7.holds Tryz.pinned (.plain (OpenSpec.ofChange machineNoneSpec)) machineNoneCard

/-- THE TIED CARD OF 'firewalllaw13.MachineStack'. -/
def machineStackCard : Claim7 := { stood := { row := machineStackRow, standIns := [], harness := (true, "4de62e4630f25e2fcffbcac007238ba733660fc1924dfb0a001923be9068df01"), looks := true }, kinds := [], alts := [], laidByText := true, laidKinds := [.data, .mapped, .mapped, .widerDeep, .mapped, .mapped, .mapped, .funcs, .data], laidTests := true, laidLooks := .later }
def MachineStackCardSaid : Prop := Claim7.holds Tryz.pinned (.plain (OpenSpec.ofChange machineStackSpec)) machineStackCard

/-- THE TIED CARD OF 'firewalllaw13.MachineJumps'. -/
def machineJumpsCard : Claim7 := { stood := { row := machineJumpsRow, standIns := [], harness := (true, "4de62e4630f25e2fcffbcac007238ba733660fc1924dfb0a001923be9068df01"), looks := true }, kinds := [], alts := [], laidByText := true, laidKinds := [.data, .mapped, .mapped, .widerDeep, .mapped, .mapped, .mapped, .funcs, .data], laidTests := true, laidLooks := .later }
def MachineJumpsCardSaid : Prop := Claim7.holds Tryz.pinned (.plain (OpenSpec.ofChange machineJumpsSpec)) machineJumpsCard

/-- THE TIED CARD OF 'firewalllaw13.MachineCalls'. -/
def machineCallsCard : Claim7 := { stood := { row := machineCallsRow, standIns := [], harness := (true, "4de62e4630f25e2fcffbcac007238ba733660fc1924dfb0a001923be9068df01"), looks := true }, kinds := [], alts := [], laidByText := true, laidKinds := [.data, .mapped, .mapped, .widerDeep, .mapped, .mapped, .mapped, .funcs, .data], laidTests := true, laidLooks := .later }
def MachineCallsCardSaid : Prop := Claim7.holds Tryz.pinned (.plain (OpenSpec.ofChange machineCallsSpec)) machineCallsCard

/-- THE TIED CARD OF 'firewalllaw13.MachineSafe'. -/
def machineSafeCard : Claim7 := { stood := { row := machineSafeRow, standIns := [], harness := (true, "4de62e4630f25e2fcffbcac007238ba733660fc1924dfb0a001923be9068df01"), looks := true }, kinds := [], alts := [], laidByText := true, laidKinds := [.data, .mapped, .mapped, .widerDeep, .mapped, .mapped, .mapped, .funcs, .data], laidTests := true, laidLooks := .later }
def MachineSafeCardSaid : Prop := Claim7.holds Tryz.pinned (.plain (OpenSpec.ofChange machineSafeSpec)) machineSafeCard

/-- THE TIED CARD OF 'firewalllaw13.MachineRun'. -/
def machineRunCard : Claim7 := { stood := { row := machineRunRow, standIns := [], harness := (true, "4de62e4630f25e2fcffbcac007238ba733660fc1924dfb0a001923be9068df01"), looks := true }, kinds := [], alts := [], laidByText := true, laidKinds := [.data, .mapped, .mapped, .widerDeep, .mapped, .mapped, .mapped, .funcs, .data], laidTests := true, laidLooks := .later }
def MachineRunCardSaid : Prop := Claim7.holds Tryz.pinned (.plain (OpenSpec.ofChange machineRunSpec)) machineRunCard

/-- THE TIED CARD OF 'firewalllaw13.MachineCode'. -/
def machineCodeCard : Claim7 := { stood := { row := machineCodeRow, standIns := [], harness := (true, "4de62e4630f25e2fcffbcac007238ba733660fc1924dfb0a001923be9068df01"), looks := true }, kinds := [], alts := [], laidByText := true, laidKinds := [.data, .mapped, .mapped, .widerDeep, .mapped, .mapped, .mapped, .funcs, .data], laidTests := true, laidLooks := .later }
def MachineCodeCardSaid : Prop := Claim7.holds Tryz.pinned (.plain (OpenSpec.ofChange machineCodeSpec)) machineCodeCard

/-- THE TIED CARD OF 'firewalllaw13.MachineStep'. -/
def machineStepCard : Claim7 := { stood := { row := machineStepRow, standIns := [], harness := (true, "4de62e4630f25e2fcffbcac007238ba733660fc1924dfb0a001923be9068df01"), looks := true }, kinds := [], alts := [], laidByText := true, laidKinds := [.data, .mapped, .mapped, .widerDeep, .mapped, .mapped, .mapped, .funcs, .data], laidTests := true, laidLooks := .later }
def MachineStepCardSaid : Prop := Claim7.holds Tryz.pinned (.plain (OpenSpec.ofChange machineStepSpec)) machineStepCard

/-- THE SECOND FORM's CARD OF 'firewalllaw13.MachineNone'. -/
def machineNoneUptoCard : Claim7 := { stood := { row := machineNoneUptoRow, standIns := [], harness := (true, "4de62e4630f25e2fcffbcac007238ba733660fc1924dfb0a001923be9068df01"), looks := true }, kinds := [], alts := [], laidByText := true, laidKinds := [.data, .mapped, .mapped, .widerDeep, .mapped, .mapped, .mapped, .funcs, .data], laidTests := true, laidLooks := .later }
def MachineNoneUptoCardSaid : Prop := Claim7.holds Tryz.pinned (.plain (OpenSpec.upto machineNoneSpec)) machineNoneUptoCard

/-- THE SECOND FORM's CARD OF 'firewalllaw13.MachineStack'. -/
def machineStackUptoCard : Claim7 := { stood := { row := machineStackUptoRow, standIns := [], harness := (true, "4de62e4630f25e2fcffbcac007238ba733660fc1924dfb0a001923be9068df01"), looks := true }, kinds := [], alts := [], laidByText := true, laidKinds := [.data, .mapped, .mapped, .widerDeep, .mapped, .mapped, .mapped, .funcs, .data], laidTests := true, laidLooks := .later }
def MachineStackUptoCardSaid : Prop := Claim7.holds Tryz.pinned (.plain (OpenSpec.upto machineStackSpec)) machineStackUptoCard

/-- THE SECOND FORM's CARD OF 'firewalllaw13.MachineJumps'. -/
def machineJumpsUptoCard : Claim7 := { stood := { row := machineJumpsUptoRow, standIns := [], harness := (true, "4de62e4630f25e2fcffbcac007238ba733660fc1924dfb0a001923be9068df01"), looks := true }, kinds := [], alts := [], laidByText := true, laidKinds := [.data, .mapped, .mapped, .widerDeep, .mapped, .mapped, .mapped, .funcs, .data], laidTests := true, laidLooks := .later }
def MachineJumpsUptoCardSaid : Prop := Claim7.holds Tryz.pinned (.plain (OpenSpec.upto machineJumpsSpec)) machineJumpsUptoCard

/-- THE SECOND FORM's CARD OF 'firewalllaw13.MachineCalls'. -/
def machineCallsUptoCard : Claim7 := { stood := { row := machineCallsUptoRow, standIns := [], harness := (true, "4de62e4630f25e2fcffbcac007238ba733660fc1924dfb0a001923be9068df01"), looks := true }, kinds := [], alts := [], laidByText := true, laidKinds := [.data, .mapped, .mapped, .widerDeep, .mapped, .mapped, .mapped, .funcs, .data], laidTests := true, laidLooks := .later }
def MachineCallsUptoCardSaid : Prop := Claim7.holds Tryz.pinned (.plain (OpenSpec.upto machineCallsSpec)) machineCallsUptoCard

/-- THE SECOND FORM's CARD OF 'firewalllaw13.MachineSafe'. -/
def machineSafeUptoCard : Claim7 := { stood := { row := machineSafeUptoRow, standIns := [], harness := (true, "4de62e4630f25e2fcffbcac007238ba733660fc1924dfb0a001923be9068df01"), looks := true }, kinds := [], alts := [], laidByText := true, laidKinds := [.data, .mapped, .mapped, .widerDeep, .mapped, .mapped, .mapped, .funcs, .data], laidTests := true, laidLooks := .later }
def MachineSafeUptoCardSaid : Prop := Claim7.holds Tryz.pinned (.plain (OpenSpec.upto machineSafeSpec)) machineSafeUptoCard

/-- THE SECOND FORM's CARD OF 'firewalllaw13.MachineRun'. -/
def machineRunUptoCard : Claim7 := { stood := { row := machineRunUptoRow, standIns := [], harness := (true, "4de62e4630f25e2fcffbcac007238ba733660fc1924dfb0a001923be9068df01"), looks := true }, kinds := [], alts := [], laidByText := true, laidKinds := [.data, .mapped, .mapped, .widerDeep, .mapped, .mapped, .mapped, .funcs, .data], laidTests := true, laidLooks := .later }
def MachineRunUptoCardSaid : Prop := Claim7.holds Tryz.pinned (.plain (OpenSpec.upto machineRunSpec)) machineRunUptoCard

/-- THE SECOND FORM's CARD OF 'firewalllaw13.MachineCode'. -/
def machineCodeUptoCard : Claim7 := { stood := { row := machineCodeUptoRow, standIns := [], harness := (true, "4de62e4630f25e2fcffbcac007238ba733660fc1924dfb0a001923be9068df01"), looks := true }, kinds := [], alts := [], laidByText := true, laidKinds := [.data, .mapped, .mapped, .widerDeep, .mapped, .mapped, .mapped, .funcs, .data], laidTests := true, laidLooks := .later }
def MachineCodeUptoCardSaid : Prop := Claim7.holds Tryz.pinned (.plain (OpenSpec.upto machineCodeSpec)) machineCodeUptoCard

/-- THE SECOND FORM's CARD OF 'firewalllaw13.MachineStep'. -/
def machineStepUptoCard : Claim7 := { stood := { row := machineStepUptoRow, standIns := [], harness := (true, "4de62e4630f25e2fcffbcac007238ba733660fc1924dfb0a001923be9068df01"), looks := true }, kinds := [], alts := [], laidByText := true, laidKinds := [.data, .mapped, .mapped, .widerDeep, .mapped, .mapped, .mapped, .funcs, .data], laidTests := true, laidLooks := .later }
def MachineStepUptoCardSaid : Prop := Claim7.holds Tryz.pinned (.plain (OpenSpec.upto machineStepSpec)) machineStepUptoCard
end Rows
end Go.Proofs.YtkjhfnfneopopaaGreatDoor
