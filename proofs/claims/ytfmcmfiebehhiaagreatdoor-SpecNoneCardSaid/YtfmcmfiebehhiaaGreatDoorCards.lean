/-
  DERIVED. GIVEN WITH THE SEED: THE CARDS: each row of YtfmcmfiebehhiaaGreatDoorRows.lean that lists a variable, with what it lists TIED to the program's text (the seventh form; the later family's looks); each row that meets fmt, with fmt's text TOLD by the authors' own Lean function (tested against real Go, not proved from fmt's source: count such statements apart). THE CARD IS WHAT COUNTS. Prove the row's statement (the work); the ties are given (YtfmcmfiebehhiaaGreatDoorTie.lean); close each card by the builder's one call (the guide's Derived/Test/ToyasCard.lean, 'card_holds'). Laid BY PROGRAM, IN A SANDBOX (cutbox-door.mjs). By AI agents, Wed Nov 11 2026. No macro, syntax, notation, axiom, sorry.
-/
import Derived.Test.YtfmcmfiebehhiaaGreatDoorRows
import GoSem.ClaimSeven
namespace Go.Proofs.YtfmcmfiebehhiaaGreatDoor
namespace Rows

/-- THE TIED CARD OF 'firewalllaw14.SpecNone'. -/
def specNoneCard : Claim7 := { stood := { row := specNoneRow, standIns := [], harness := (true, "4b19b728c6e408d0a45c334e10133746bdb21820fbfd0564bb4f7e0b91154920"), looks := true }, kinds := [], alts := [], laidByText := true, laidKinds := [.data, .mapped, .mapped, .widerDeep, .mapped, .mapped, .mapped, .funcs, .data], laidTests := true, laidLooks := .later }
def SpecNoneCardSaid : Prop := Claim7.holds Tryz.pinned (.plain (OpenSpec.ofChange specNoneSpec)) specNoneCard

/-- THE TIED CARD OF 'firewalllaw14.SpecLeak'. -/
def specLeakCard : Claim7 := { stood := { row := specLeakRow, standIns := [], harness := (true, "4b19b728c6e408d0a45c334e10133746bdb21820fbfd0564bb4f7e0b91154920"), looks := true }, kinds := [], alts := [], laidByText := true, laidKinds := [.data, .mapped, .mapped, .widerDeep, .mapped, .mapped, .mapped, .funcs, .data], laidTests := true, laidLooks := .later }
def SpecLeakCardSaid : Prop := Claim7.holds Tryz.pinned (.plain (OpenSpec.ofChange specLeakSpec)) specLeakCard

/-- THE TIED CARD OF 'firewalllaw14.SpecStale'. -/
def specStaleCard : Claim7 := { stood := { row := specStaleRow, standIns := [], harness := (true, "4b19b728c6e408d0a45c334e10133746bdb21820fbfd0564bb4f7e0b91154920"), looks := true }, kinds := [], alts := [], laidByText := true, laidKinds := [.data, .mapped, .mapped, .widerDeep, .mapped, .mapped, .mapped, .funcs, .data], laidTests := true, laidLooks := .later }
def SpecStaleCardSaid : Prop := Claim7.holds Tryz.pinned (.plain (OpenSpec.ofChange specStaleSpec)) specStaleCard

/-- THE SECOND FORM's CARD OF 'firewalllaw14.SpecNone'. -/
def specNoneUptoCard : Claim7 := { stood := { row := specNoneUptoRow, standIns := [], harness := (true, "4b19b728c6e408d0a45c334e10133746bdb21820fbfd0564bb4f7e0b91154920"), looks := true }, kinds := [], alts := [], laidByText := true, laidKinds := [.data, .mapped, .mapped, .widerDeep, .mapped, .mapped, .mapped, .funcs, .data], laidTests := true, laidLooks := .later }
def SpecNoneUptoCardSaid : Prop := Claim7.holds Tryz.pinned (.plain (OpenSpec.upto specNoneSpec)) specNoneUptoCard

/-- THE SECOND FORM's CARD OF 'firewalllaw14.SpecLeak'. -/
def specLeakUptoCard : Claim7 := { stood := { row := specLeakUptoRow, standIns := [], harness := (true, "4b19b728c6e408d0a45c334e10133746bdb21820fbfd0564bb4f7e0b91154920"), looks := true }, kinds := [], alts := [], laidByText := true, laidKinds := [.data, .mapped, .mapped, .widerDeep, .mapped, .mapped, .mapped, .funcs, .data], laidTests := true, laidLooks := .later }
def SpecLeakUptoCardSaid : Prop := Claim7.holds Tryz.pinned (.plain (OpenSpec.upto specLeakSpec)) specLeakUptoCard

/-- THE SECOND FORM's CARD OF 'firewalllaw14.SpecStale'. -/
def specStaleUptoCard : Claim7 := { stood := { row := specStaleUptoRow, standIns := [], harness := (true, "4b19b728c6e408d0a45c334e10133746bdb21820fbfd0564bb4f7e0b91154920"), looks := true }, kinds := [], alts := [], laidByText := true, laidKinds := [.data, .mapped, .mapped, .widerDeep, .mapped, .mapped, .mapped, .funcs, .data], laidTests := true, laidLooks := .later }
def SpecStaleUptoCardSaid : Prop := Claim7.holds Tryz.pinned (.plain (OpenSpec.upto specStaleSpec)) specStaleUptoCard
end Rows
end Go.Proofs.YtfmcmfiebehhiaaGreatDoor
