/-
  DERIVED. GIVEN WITH THE SEED: THE CARDS: each row of YthkhignbmefmjaaGreatDoorRows.lean that lists a variable, with what it lists TIED to the program's text (the seventh form; the later family's looks); each row that meets fmt, with fmt's text TOLD by the authors' own Lean function (tested against real Go, not proved from fmt's source: count such statements apart). THE CARD IS WHAT COUNTS. Prove the row's statement (the work); the ties are given (YthkhignbmefmjaaGreatDoorTie.lean); close each card by the builder's one call (the guide's Derived/Test/ToyasCard.lean, 'card_holds'). Laid BY PROGRAM, IN A SANDBOX (cutbox-door.mjs). By AI agents, Wed Nov 11 2026. No macro, syntax, notation, axiom, sorry.
-/
import Derived.Test.YthkhignbmefmjaaGreatDoorRows
import GoSem.ClaimSeven
namespace Go.Proofs.YthkhignbmefmjaaGreatDoor
namespace Rows

/-- THE TIED CARD OF 'binnaclelaw05.SumMeans'. -/
def sumMeansCard : Claim7 := { stood := { row := sumMeansRow, standIns := [], harness := (true, "cdc11d582dcea1864caa1e8790b462c659a2a0fae9cb3a2c34ddff68925bae7f"), looks := false }, kinds := [], alts := [], laidByText := true, laidKinds := [.data, .data], laidTests := true, laidLooks := .later }
def SumMeansCardSaid : Prop := Claim7.holds Tryz.pinned (.plain (OpenSpec.ofChange sumMeansSpec)) sumMeansCard

/-- THE SECOND FORM's CARD OF 'binnaclelaw05.SumMeans'. -/
def sumMeansUptoCard : Claim7 := { stood := { row := sumMeansUptoRow, standIns := [], harness := (true, "cdc11d582dcea1864caa1e8790b462c659a2a0fae9cb3a2c34ddff68925bae7f"), looks := false }, kinds := [], alts := [], laidByText := true, laidKinds := [.data, .data], laidTests := true, laidLooks := .later }
def SumMeansUptoCardSaid : Prop := Claim7.holds Tryz.pinned (.plain (OpenSpec.upto sumMeansSpec)) sumMeansUptoCard
end Rows
end Go.Proofs.YthkhignbmefmjaaGreatDoor
