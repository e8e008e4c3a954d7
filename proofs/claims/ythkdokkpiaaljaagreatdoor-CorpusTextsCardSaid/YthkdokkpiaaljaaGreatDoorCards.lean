/-
  DERIVED. GIVEN WITH THE SEED: THE CARDS: each row of YthkdokkpiaaljaaGreatDoorRows.lean that lists a variable, with what it lists TIED to the program's text (the seventh form; the later family's looks); each row that meets fmt, with fmt's text TOLD by the authors' own Lean function (tested against real Go, not proved from fmt's source: count such statements apart). THE CARD IS WHAT COUNTS. Prove the row's statement (the work); the ties are given (YthkdokkpiaaljaaGreatDoorTie.lean); close each card by the builder's one call (the guide's Derived/Test/ToyasCard.lean, 'card_holds'). Laid BY PROGRAM, IN A SANDBOX (cutbox-door.mjs). By AI agents, Wed Nov 11 2026. No macro, syntax, notation, axiom, sorry.
-/
import Derived.Test.YthkdokkpiaaljaaGreatDoorRows
import GoSem.ClaimSeven
namespace Go.Proofs.YthkdokkpiaaljaaGreatDoor
namespace Rows

/-- THE TIED CARD OF 'firewalllaw03.LinesShow'. -/
def linesShowCard : Claim7 := { stood := { row := linesShowRow, standIns := [], harness := (true, "46ebc608a89d0589e2d2a7bbebf5810322e2604861220a6fd64ba332420be1fc"), looks := true }, kinds := [], alts := [], laidByText := true, laidKinds := [.data, .data, .data, .data, .sentinel, .sentinel, .mapped, .widerDeep, .widerDeep, .mapped, .pinned], laidTests := true, laidLooks := .later }
def LinesShowCardSaid : Prop := Claim7.holds Tryz.pinned (.plain (OpenSpec.ofChange linesShowSpec)) linesShowCard

/-- THE TIED CARD OF 'firewalllaw03.LinesRead'. -/
def linesReadCard : Claim7 := { stood := { row := linesReadRow, standIns := [], harness := (true, "46ebc608a89d0589e2d2a7bbebf5810322e2604861220a6fd64ba332420be1fc"), looks := true }, kinds := [], alts := [], laidByText := true, laidKinds := [.data, .data, .data, .data, .sentinel, .sentinel, .mapped, .widerDeep, .widerDeep, .mapped, .pinned], laidTests := true, laidLooks := .later }
def LinesReadCardSaid : Prop := Claim7.holds Tryz.pinned (.plain (OpenSpec.ofChange linesReadSpec)) linesReadCard

/-- THE TIED CARD OF 'firewalllaw03.LinesBack'. -/
def linesBackCard : Claim7 := { stood := { row := linesBackRow, standIns := [], harness := (true, "46ebc608a89d0589e2d2a7bbebf5810322e2604861220a6fd64ba332420be1fc"), looks := true }, kinds := [], alts := [], laidByText := true, laidKinds := [.data, .data, .data, .data, .sentinel, .sentinel, .mapped, .widerDeep, .widerDeep, .mapped, .pinned], laidTests := true, laidLooks := .later }
def LinesBackCardSaid : Prop := Claim7.holds Tryz.pinned (.plain (OpenSpec.ofChange linesBackSpec)) linesBackCard

/-- THE TIED CARD OF 'firewalllaw03.LinesAgain'. -/
def linesAgainCard : Claim7 := { stood := { row := linesAgainRow, standIns := [], harness := (true, "46ebc608a89d0589e2d2a7bbebf5810322e2604861220a6fd64ba332420be1fc"), looks := true }, kinds := [], alts := [], laidByText := true, laidKinds := [.data, .data, .data, .data, .sentinel, .sentinel, .mapped, .widerDeep, .widerDeep, .mapped, .pinned], laidTests := true, laidLooks := .later }
def LinesAgainCardSaid : Prop := Claim7.holds Tryz.pinned (.plain (OpenSpec.ofChange linesAgainSpec)) linesAgainCard

/-- THE TIED CARD OF 'firewalllaw03.LinesBlank'. -/
def linesBlankCard : Claim7 := { stood := { row := linesBlankRow, standIns := [], harness := (true, "46ebc608a89d0589e2d2a7bbebf5810322e2604861220a6fd64ba332420be1fc"), looks := true }, kinds := [], alts := [], laidByText := true, laidKinds := [.data, .data, .data, .data, .sentinel, .sentinel, .mapped, .widerDeep, .widerDeep, .mapped, .pinned], laidTests := true, laidLooks := .later }
def LinesBlankCardSaid : Prop := Claim7.holds Tryz.pinned (.plain (OpenSpec.ofChange linesBlankSpec)) linesBlankCard

/-- THE TIED CARD OF 'firewalllaw03.LinesBroken'. -/
def linesBrokenCard : Claim7 := { stood := { row := linesBrokenRow, standIns := [], harness := (true, "46ebc608a89d0589e2d2a7bbebf5810322e2604861220a6fd64ba332420be1fc"), looks := true }, kinds := [], alts := [], laidByText := true, laidKinds := [.data, .data, .data, .data, .sentinel, .sentinel, .mapped, .widerDeep, .widerDeep, .mapped, .pinned], laidTests := true, laidLooks := .later }
def LinesBrokenCardSaid : Prop := Claim7.holds Tryz.pinned (.plain (OpenSpec.ofChange linesBrokenSpec)) linesBrokenCard

/-- THE TIED CARD OF 'firewalllaw28.CorpusTexts'. -/
def corpusTextsCard : Claim7 := { stood := { row := corpusTextsRow, standIns := [], harness := (true, "46ebc608a89d0589e2d2a7bbebf5810322e2604861220a6fd64ba332420be1fc"), looks := true }, kinds := [], alts := [], laidByText := true, laidKinds := [.data, .data, .data, .data, .sentinel, .sentinel, .mapped, .widerDeep, .widerDeep, .mapped, .pinned], laidTests := true, laidLooks := .later }
def CorpusTextsCardSaid : Prop := Claim7.holds Tryz.pinned (.plain (OpenSpec.ofChange corpusTextsSpec)) corpusTextsCard

/-- THE SECOND FORM's CARD OF 'firewalllaw03.LinesShow'. -/
def linesShowUptoCard : Claim7 := { stood := { row := linesShowUptoRow, standIns := [], harness := (true, "46ebc608a89d0589e2d2a7bbebf5810322e2604861220a6fd64ba332420be1fc"), looks := true }, kinds := [], alts := [], laidByText := true, laidKinds := [.data, .data, .data, .data, .sentinel, .sentinel, .mapped, .widerDeep, .widerDeep, .mapped, .pinned], laidTests := true, laidLooks := .later }
def LinesShowUptoCardSaid : Prop := Claim7.holds Tryz.pinned (.plain (OpenSpec.upto linesShowSpec)) linesShowUptoCard

/-- THE SECOND FORM's CARD OF 'firewalllaw03.LinesRead'. -/
def linesReadUptoCard : Claim7 := { stood := { row := linesReadUptoRow, standIns := [], harness := (true, "46ebc608a89d0589e2d2a7bbebf5810322e2604861220a6fd64ba332420be1fc"), looks := true }, kinds := [], alts := [], laidByText := true, laidKinds := [.data, .data, .data, .data, .sentinel, .sentinel, .mapped, .widerDeep, .widerDeep, .mapped, .pinned], laidTests := true, laidLooks := .later }
def LinesReadUptoCardSaid : Prop := Claim7.holds Tryz.pinned (.plain (OpenSpec.upto linesReadSpec)) linesReadUptoCard

/-- THE SECOND FORM's CARD OF 'firewalllaw03.LinesBack'. -/
def linesBackUptoCard : Claim7 := { stood := { row := linesBackUptoRow, standIns := [], harness := (true, "46ebc608a89d0589e2d2a7bbebf5810322e2604861220a6fd64ba332420be1fc"), looks := true }, kinds := [], alts := [], laidByText := true, laidKinds := [.data, .data, .data, .data, .sentinel, .sentinel, .mapped, .widerDeep, .widerDeep, .mapped, .pinned], laidTests := true, laidLooks := .later }
def LinesBackUptoCardSaid : Prop := Claim7.holds Tryz.pinned (.plain (OpenSpec.upto linesBackSpec)) linesBackUptoCard

/-- THE SECOND FORM's CARD OF 'firewalllaw03.LinesAgain'. -/
def linesAgainUptoCard : Claim7 := { stood := { row := linesAgainUptoRow, standIns := [], harness := (true, "46ebc608a89d0589e2d2a7bbebf5810322e2604861220a6fd64ba332420be1fc"), looks := true }, kinds := [], alts := [], laidByText := true, laidKinds := [.data, .data, .data, .data, .sentinel, .sentinel, .mapped, .widerDeep, .widerDeep, .mapped, .pinned], laidTests := true, laidLooks := .later }
def LinesAgainUptoCardSaid : Prop := Claim7.holds Tryz.pinned (.plain (OpenSpec.upto linesAgainSpec)) linesAgainUptoCard

/-- THE SECOND FORM's CARD OF 'firewalllaw03.LinesBlank'. -/
def linesBlankUptoCard : Claim7 := { stood := { row := linesBlankUptoRow, standIns := [], harness := (true, "46ebc608a89d0589e2d2a7bbebf5810322e2604861220a6fd64ba332420be1fc"), looks := true }, kinds := [], alts := [], laidByText := true, laidKinds := [.data, .data, .data, .data, .sentinel, .sentinel, .mapped, .widerDeep, .widerDeep, .mapped, .pinned], laidTests := true, laidLooks := .later }
def LinesBlankUptoCardSaid : Prop := Claim7.holds Tryz.pinned (.plain (OpenSpec.upto linesBlankSpec)) linesBlankUptoCard

/-- THE SECOND FORM's CARD OF 'firewalllaw03.LinesBroken'. -/
def linesBrokenUptoCard : Claim7 := { stood := { row := linesBrokenUptoRow, standIns := [], harness := (true, "46ebc608a89d0589e2d2a7bbebf5810322e2604861220a6fd64ba332420be1fc"), looks := true }, kinds := [], alts := [], laidByText := true, laidKinds := [.data, .data, .data, .data, .sentinel, .sentinel, .mapped, .widerDeep, .widerDeep, .mapped, .pinned], laidTests := true, laidLooks := .later }
def LinesBrokenUptoCardSaid : Prop := Claim7.holds Tryz.pinned (.plain (OpenSpec.upto linesBrokenSpec)) linesBrokenUptoCard

/-- THE SECOND FORM's CARD OF 'firewalllaw28.CorpusTexts'. -/
def corpusTextsUptoCard : Claim7 := { stood := { row := corpusTextsUptoRow, standIns := [], harness := (true, "46ebc608a89d0589e2d2a7bbebf5810322e2604861220a6fd64ba332420be1fc"), looks := true }, kinds := [], alts := [], laidByText := true, laidKinds := [.data, .data, .data, .data, .sentinel, .sentinel, .mapped, .widerDeep, .widerDeep, .mapped, .pinned], laidTests := true, laidLooks := .later }
def CorpusTextsUptoCardSaid : Prop := Claim7.holds Tryz.pinned (.plain (OpenSpec.upto corpusTextsSpec)) corpusTextsUptoCard
end Rows
end Go.Proofs.YthkdokkpiaaljaaGreatDoor
