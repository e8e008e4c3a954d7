/-
  DERIVED. GIVEN WITH THE SEED: THE CARDS: each row of YtlinnhaodkiolaaDoorRows.lean that lists a variable, with what it lists TIED to the program's text (the seventh form; the later family's looks); each row that meets fmt, with fmt's text TOLD by the authors' own Lean function (tested against real Go, not proved from fmt's source: count such statements apart). THE CARD IS WHAT COUNTS. Prove the row's statement (the work); the ties are given (YtlinnhaodkiolaaDoorTie.lean); close each card by the builder's one call (the guide's Derived/Test/ToyasCard.lean, 'card_holds'). Laid BY PROGRAM, IN A SANDBOX (cutbox-door.mjs). By AI agents, Wed Nov 11 2026. No macro, syntax, notation, axiom, sorry.
-/
import Derived.Test.YtlinnhaodkiolaaDoorRows
import GoSem.ClaimSeven
namespace Go.Proofs.YtlinnhaodkiolaaDoor
namespace Rows

/-- THE TIED CARD OF 'firewalllaw09.HelpersOwn'. -/
def helpersOwnCard : Claim7 := { stood := { row := helpersOwnRow, standIns := [], harness := (true, "dab55c83af7241bd19a08c3a2c7506b1e3352933951525a105b576cb7a5cb371"), looks := true }, kinds := [], alts := [], laidByText := true, laidKinds := [.mapped], laidTests := true, laidLooks := .later }
def HelpersOwnCardSaid : Prop := Claim7.holds Tryd.pinned (.plain (OpenSpec.ofChange helpersOwnSpec)) helpersOwnCard

/-- THE TIED CARD OF 'firewalllaw09.HelpersLaid'. -/
def helpersLaidCard : Claim7 := { stood := { row := helpersLaidRow, standIns := [], harness := (true, "dab55c83af7241bd19a08c3a2c7506b1e3352933951525a105b576cb7a5cb371"), looks := true }, kinds := [], alts := [], laidByText := true, laidKinds := [.mapped], laidTests := true, laidLooks := .later }
def HelpersLaidCardSaid : Prop := Claim7.holds Tryd.pinned (.plain (OpenSpec.ofChange helpersLaidSpec)) helpersLaidCard

/-- THE TIED CARD OF 'firewalllaw09.HelpersDraws'. -/
def helpersDrawsCard : Claim7 := { stood := { row := helpersDrawsRow, standIns := [], harness := (true, "dab55c83af7241bd19a08c3a2c7506b1e3352933951525a105b576cb7a5cb371"), looks := true }, kinds := [], alts := [], laidByText := true, laidKinds := [.mapped], laidTests := true, laidLooks := .later }
def HelpersDrawsCardSaid : Prop := Claim7.holds Tryd.pinned (.plain (OpenSpec.ofChange helpersDrawsSpec)) helpersDrawsCard

/-- THE SECOND FORM's CARD OF 'firewalllaw09.HelpersOwn'. -/
def helpersOwnUptoCard : Claim7 := { stood := { row := helpersOwnUptoRow, standIns := [], harness := (true, "dab55c83af7241bd19a08c3a2c7506b1e3352933951525a105b576cb7a5cb371"), looks := true }, kinds := [], alts := [], laidByText := true, laidKinds := [.mapped], laidTests := true, laidLooks := .later }
def HelpersOwnUptoCardSaid : Prop := Claim7.holds Tryd.pinned (.plain (OpenSpec.upto helpersOwnSpec)) helpersOwnUptoCard

/-- THE SECOND FORM's CARD OF 'firewalllaw09.HelpersLaid'. -/
def helpersLaidUptoCard : Claim7 := { stood := { row := helpersLaidUptoRow, standIns := [], harness := (true, "dab55c83af7241bd19a08c3a2c7506b1e3352933951525a105b576cb7a5cb371"), looks := true }, kinds := [], alts := [], laidByText := true, laidKinds := [.mapped], laidTests := true, laidLooks := .later }
def HelpersLaidUptoCardSaid : Prop := Claim7.holds Tryd.pinned (.plain (OpenSpec.upto helpersLaidSpec)) helpersLaidUptoCard

/-- THE SECOND FORM's CARD OF 'firewalllaw09.HelpersDraws'. -/
def helpersDrawsUptoCard : Claim7 := { stood := { row := helpersDrawsUptoRow, standIns := [], harness := (true, "dab55c83af7241bd19a08c3a2c7506b1e3352933951525a105b576cb7a5cb371"), looks := true }, kinds := [], alts := [], laidByText := true, laidKinds := [.mapped], laidTests := true, laidLooks := .later }
def HelpersDrawsUptoCardSaid : Prop := Claim7.holds Tryd.pinned (.plain (OpenSpec.upto helpersDrawsSpec)) helpersDrawsUptoCard
end Rows
end Go.Proofs.YtlinnhaodkiolaaDoor
