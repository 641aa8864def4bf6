/-
  DERIVED. GIVEN WITH THE SEED: THE CARDS: each row of YtfmecpembnmnkaaGreatDoorRows.lean that lists a variable, with what it lists TIED to the program's text (the seventh form; the later family's looks); each row that meets fmt, with fmt's text TOLD by the authors' own Lean function (tested against real Go, not proved from fmt's source: count such statements apart). THE CARD IS WHAT COUNTS. Prove the row's statement (the work); the ties are given (YtfmecpembnmnkaaGreatDoorTie.lean); close each card by the builder's one call (the guide's Derived/Test/ToyasCard.lean, 'card_holds'). Laid BY PROGRAM, IN A SANDBOX (cutbox-door.mjs). By AI agents, Wed Nov 11 2026. No macro, syntax, notation, axiom, sorry.
-/
import Derived.Test.YtfmecpembnmnkaaGreatDoorRows
import GoSem.ClaimSeven
namespace Go.Proofs.YtfmecpembnmnkaaGreatDoor
namespace Rows

/-- THE TIED CARD OF 'binnaclelaw09.CholPivots'. -/
def cholPivotsCard : Claim7 := { stood := { row := cholPivotsRow, standIns := [], harness := (true, "a26dc66c1e4e5f53fd7ef76b5a7378ad3660ed14441a76269257758421002c6b"), looks := false }, kinds := [], alts := [], laidByText := true, laidKinds := [.data], laidTests := true, laidLooks := .later }
def CholPivotsCardSaid : Prop := Claim7.holds Tryz.pinned (.plain (OpenSpec.ofChange cholPivotsSpec)) cholPivotsCard

/-- THE TIED CARD OF 'binnaclelaw09.CholFactors'. -/
def cholFactorsCard : Claim7 := { stood := { row := cholFactorsRow, standIns := [], harness := (true, "a26dc66c1e4e5f53fd7ef76b5a7378ad3660ed14441a76269257758421002c6b"), looks := false }, kinds := [], alts := [], laidByText := true, laidKinds := [.data], laidTests := true, laidLooks := .later }
def CholFactorsCardSaid : Prop := Claim7.holds Tryz.pinned (.plain (OpenSpec.ofChange cholFactorsSpec)) cholFactorsCard

/-- THE TIED CARD OF 'binnaclelaw09.CholTriangles'. -/
def cholTrianglesCard : Claim7 := { stood := { row := cholTrianglesRow, standIns := [], harness := (true, "a26dc66c1e4e5f53fd7ef76b5a7378ad3660ed14441a76269257758421002c6b"), looks := false }, kinds := [], alts := [], laidByText := true, laidKinds := [.data], laidTests := true, laidLooks := .later }
def CholTrianglesCardSaid : Prop := Claim7.holds Tryz.pinned (.plain (OpenSpec.ofChange cholTrianglesSpec)) cholTrianglesCard

/-- THE TIED CARD OF 'binnaclelaw09.CholSolves'. -/
def cholSolvesCard : Claim7 := { stood := { row := cholSolvesRow, standIns := [], harness := (true, "a26dc66c1e4e5f53fd7ef76b5a7378ad3660ed14441a76269257758421002c6b"), looks := false }, kinds := [], alts := [], laidByText := true, laidKinds := [.data], laidTests := true, laidLooks := .later }
def CholSolvesCardSaid : Prop := Claim7.holds Tryz.pinned (.plain (OpenSpec.ofChange cholSolvesSpec)) cholSolvesCard

/-- THE TIED CARD OF 'binnaclelaw09.CholColumns'. -/
def cholColumnsCard : Claim7 := { stood := { row := cholColumnsRow, standIns := [], harness := (true, "a26dc66c1e4e5f53fd7ef76b5a7378ad3660ed14441a76269257758421002c6b"), looks := false }, kinds := [], alts := [], laidByText := true, laidKinds := [.data], laidTests := true, laidLooks := .later }
def CholColumnsCardSaid : Prop := Claim7.holds Tryz.pinned (.plain (OpenSpec.ofChange cholColumnsSpec)) cholColumnsCard

/-- THE SECOND FORM's CARD OF 'binnaclelaw09.CholPivots'. -/
def cholPivotsUptoCard : Claim7 := { stood := { row := cholPivotsUptoRow, standIns := [], harness := (true, "a26dc66c1e4e5f53fd7ef76b5a7378ad3660ed14441a76269257758421002c6b"), looks := false }, kinds := [], alts := [], laidByText := true, laidKinds := [.data], laidTests := true, laidLooks := .later }
def CholPivotsUptoCardSaid : Prop := Claim7.holds Tryz.pinned (.plain (OpenSpec.upto cholPivotsSpec)) cholPivotsUptoCard

/-- THE SECOND FORM's CARD OF 'binnaclelaw09.CholFactors'. -/
def cholFactorsUptoCard : Claim7 := { stood := { row := cholFactorsUptoRow, standIns := [], harness := (true, "a26dc66c1e4e5f53fd7ef76b5a7378ad3660ed14441a76269257758421002c6b"), looks := false }, kinds := [], alts := [], laidByText := true, laidKinds := [.data], laidTests := true, laidLooks := .later }
def CholFactorsUptoCardSaid : Prop := Claim7.holds Tryz.pinned (.plain (OpenSpec.upto cholFactorsSpec)) cholFactorsUptoCard

/-- THE SECOND FORM's CARD OF 'binnaclelaw09.CholTriangles'. -/
def cholTrianglesUptoCard : Claim7 := { stood := { row := cholTrianglesUptoRow, standIns := [], harness := (true, "a26dc66c1e4e5f53fd7ef76b5a7378ad3660ed14441a76269257758421002c6b"), looks := false }, kinds := [], alts := [], laidByText := true, laidKinds := [.data], laidTests := true, laidLooks := .later }
def CholTrianglesUptoCardSaid : Prop := Claim7.holds Tryz.pinned (.plain (OpenSpec.upto cholTrianglesSpec)) cholTrianglesUptoCard

/-- THE SECOND FORM's CARD OF 'binnaclelaw09.CholSolves'. -/
def cholSolvesUptoCard : Claim7 := { stood := { row := cholSolvesUptoRow, standIns := [], harness := (true, "a26dc66c1e4e5f53fd7ef76b5a7378ad3660ed14441a76269257758421002c6b"), looks := false }, kinds := [], alts := [], laidByText := true, laidKinds := [.data], laidTests := true, laidLooks := .later }
def CholSolvesUptoCardSaid : Prop := Claim7.holds Tryz.pinned (.plain (OpenSpec.upto cholSolvesSpec)) cholSolvesUptoCard

/-- THE SECOND FORM's CARD OF 'binnaclelaw09.CholColumns'. -/
def cholColumnsUptoCard : Claim7 := { stood := { row := cholColumnsUptoRow, standIns := [], harness := (true, "a26dc66c1e4e5f53fd7ef76b5a7378ad3660ed14441a76269257758421002c6b"), looks := false }, kinds := [], alts := [], laidByText := true, laidKinds := [.data], laidTests := true, laidLooks := .later }
def CholColumnsUptoCardSaid : Prop := Claim7.holds Tryz.pinned (.plain (OpenSpec.upto cholColumnsSpec)) cholColumnsUptoCard
end Rows
end Go.Proofs.YtfmecpembnmnkaaGreatDoor
