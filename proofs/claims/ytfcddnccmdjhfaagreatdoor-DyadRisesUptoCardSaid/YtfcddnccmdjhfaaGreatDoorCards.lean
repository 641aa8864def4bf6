/-
  DERIVED. GIVEN WITH THE SEED: THE CARDS: each row of YtfcddnccmdjhfaaGreatDoorRows.lean that lists a variable, with what it lists TIED to the program's text (the seventh form; the later family's looks); each row that meets fmt, with fmt's text TOLD by the authors' own Lean function (tested against real Go, not proved from fmt's source: count such statements apart). THE CARD IS WHAT COUNTS. Prove the row's statement (the work); the ties are given (YtfcddnccmdjhfaaGreatDoorTie.lean); close each card by the builder's one call (the guide's Derived/Test/ToyasCard.lean, 'card_holds'). Laid BY PROGRAM, IN A SANDBOX (cutbox-door.mjs). By AI agents, Wed Nov 11 2026. No macro, syntax, notation, axiom, sorry.
-/
import Derived.Test.YtfcddnccmdjhfaaGreatDoorRows
import GoSem.ClaimSeven
namespace Go.Proofs.YtfcddnccmdjhfaaGreatDoor
namespace Rows

/-- THE TIED CARD OF 'binnaclelaw03.DyadRises'. -/
def dyadRisesCard : Claim7 := { stood := { row := dyadRisesRow, standIns := [], harness := (true, "f734d7a6b9964bc74dd13c034985889c843a8478b244b729013d63dd72e2ef87"), looks := false }, kinds := [], alts := [], laidByText := true, laidKinds := [.data], laidTests := true, laidLooks := .later }
def DyadRisesCardSaid : Prop := Claim7.holds Tryz.pinned (.plain (OpenSpec.ofChange dyadRisesSpec)) dyadRisesCard

/-- THE TIED CARD OF 'binnaclelaw03.DyadMakes'. -/
def dyadMakesCard : Claim7 := { stood := { row := dyadMakesRow, standIns := [], harness := (true, "f734d7a6b9964bc74dd13c034985889c843a8478b244b729013d63dd72e2ef87"), looks := false }, kinds := [], alts := [], laidByText := true, laidKinds := [.data, .data], laidTests := true, laidLooks := .later }
def DyadMakesCardSaid : Prop := Claim7.holds Tryz.pinned (.plain (OpenSpec.ofChange dyadMakesSpec)) dyadMakesCard

/-- THE TIED CARD OF 'binnaclelaw03.DyadRounds'. -/
def dyadRoundsCard : Claim7 := { stood := { row := dyadRoundsRow, standIns := [], harness := (true, "f734d7a6b9964bc74dd13c034985889c843a8478b244b729013d63dd72e2ef87"), looks := false }, kinds := [], alts := [], laidByText := true, laidKinds := [.data, .data], laidTests := true, laidLooks := .later }
def DyadRoundsCardSaid : Prop := Claim7.holds Tryz.pinned (.plain (OpenSpec.ofChange dyadRoundsSpec)) dyadRoundsCard

/-- THE TIED CARD OF 'binnaclelaw03.DyadSums'. -/
def dyadSumsCard : Claim7 := { stood := { row := dyadSumsRow, standIns := [], harness := (true, "f734d7a6b9964bc74dd13c034985889c843a8478b244b729013d63dd72e2ef87"), looks := false }, kinds := [], alts := [], laidByText := true, laidKinds := [.data, .data], laidTests := true, laidLooks := .later }
def DyadSumsCardSaid : Prop := Claim7.holds Tryz.pinned (.plain (OpenSpec.ofChange dyadSumsSpec)) dyadSumsCard

/-- THE TIED CARD OF 'binnaclelaw03.DyadReckons'. -/
def dyadReckonsCard : Claim7 := { stood := { row := dyadReckonsRow, standIns := [], harness := (true, "f734d7a6b9964bc74dd13c034985889c843a8478b244b729013d63dd72e2ef87"), looks := false }, kinds := [], alts := [], laidByText := true, laidKinds := [.data, .data], laidTests := true, laidLooks := .later }
def DyadReckonsCardSaid : Prop := Claim7.holds Tryz.pinned (.plain (OpenSpec.ofChange dyadReckonsSpec)) dyadReckonsCard

/-- THE SECOND FORM's CARD OF 'binnaclelaw03.DyadRises'. -/
def dyadRisesUptoCard : Claim7 := { stood := { row := dyadRisesUptoRow, standIns := [], harness := (true, "f734d7a6b9964bc74dd13c034985889c843a8478b244b729013d63dd72e2ef87"), looks := false }, kinds := [], alts := [], laidByText := true, laidKinds := [.data], laidTests := true, laidLooks := .later }
def DyadRisesUptoCardSaid : Prop := Claim7.holds Tryz.pinned (.plain (OpenSpec.upto dyadRisesSpec)) dyadRisesUptoCard

/-- THE SECOND FORM's CARD OF 'binnaclelaw03.DyadMakes'. -/
def dyadMakesUptoCard : Claim7 := { stood := { row := dyadMakesUptoRow, standIns := [], harness := (true, "f734d7a6b9964bc74dd13c034985889c843a8478b244b729013d63dd72e2ef87"), looks := false }, kinds := [], alts := [], laidByText := true, laidKinds := [.data, .data], laidTests := true, laidLooks := .later }
def DyadMakesUptoCardSaid : Prop := Claim7.holds Tryz.pinned (.plain (OpenSpec.upto dyadMakesSpec)) dyadMakesUptoCard

/-- THE SECOND FORM's CARD OF 'binnaclelaw03.DyadRounds'. -/
def dyadRoundsUptoCard : Claim7 := { stood := { row := dyadRoundsUptoRow, standIns := [], harness := (true, "f734d7a6b9964bc74dd13c034985889c843a8478b244b729013d63dd72e2ef87"), looks := false }, kinds := [], alts := [], laidByText := true, laidKinds := [.data, .data], laidTests := true, laidLooks := .later }
def DyadRoundsUptoCardSaid : Prop := Claim7.holds Tryz.pinned (.plain (OpenSpec.upto dyadRoundsSpec)) dyadRoundsUptoCard

/-- THE SECOND FORM's CARD OF 'binnaclelaw03.DyadSums'. -/
def dyadSumsUptoCard : Claim7 := { stood := { row := dyadSumsUptoRow, standIns := [], harness := (true, "f734d7a6b9964bc74dd13c034985889c843a8478b244b729013d63dd72e2ef87"), looks := false }, kinds := [], alts := [], laidByText := true, laidKinds := [.data, .data], laidTests := true, laidLooks := .later }
def DyadSumsUptoCardSaid : Prop := Claim7.holds Tryz.pinned (.plain (OpenSpec.upto dyadSumsSpec)) dyadSumsUptoCard

/-- THE SECOND FORM's CARD OF 'binnaclelaw03.DyadReckons'. -/
def dyadReckonsUptoCard : Claim7 := { stood := { row := dyadReckonsUptoRow, standIns := [], harness := (true, "f734d7a6b9964bc74dd13c034985889c843a8478b244b729013d63dd72e2ef87"), looks := false }, kinds := [], alts := [], laidByText := true, laidKinds := [.data, .data], laidTests := true, laidLooks := .later }
def DyadReckonsUptoCardSaid : Prop := Claim7.holds Tryz.pinned (.plain (OpenSpec.upto dyadReckonsSpec)) dyadReckonsUptoCard
end Rows
end Go.Proofs.YtfcddnccmdjhfaaGreatDoor
