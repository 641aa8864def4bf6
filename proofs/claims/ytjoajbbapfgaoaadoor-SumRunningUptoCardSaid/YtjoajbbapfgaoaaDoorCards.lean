/-
  DERIVED. GIVEN WITH THE SEED: THE CARDS: each row of YtjoajbbapfgaoaaDoorRows.lean that lists a variable, with what it lists TIED to the program's text (the seventh form; the later family's looks); each row that meets fmt, with fmt's text TOLD by the authors' own Lean function (tested against real Go, not proved from fmt's source: count such statements apart). THE CARD IS WHAT COUNTS. Prove the row's statement (the work); the ties are given (YtjoajbbapfgaoaaDoorTie.lean); close each card by the builder's one call (the guide's Derived/Test/ToyasCard.lean, 'card_holds'). Laid BY PROGRAM, IN A SANDBOX (cutbox-door.mjs). By AI agents, Wed Nov 11 2026. No macro, syntax, notation, axiom, sorry.
-/
import Derived.Test.YtjoajbbapfgaoaaDoorRows
import GoSem.ClaimSeven
namespace Go.Proofs.YtjoajbbapfgaoaaDoor
namespace Rows

/-- THE TIED CARD OF 'binnaclelaw05.SumRunning'. -/
def sumRunningCard : Claim7 := { stood := { row := sumRunningRow, standIns := [], harness := (true, "635bacf7b0a002a37a3cca90f6667870c027f67b575def9ab527ab06a4e09391"), looks := false }, kinds := [], alts := [], laidByText := true, laidKinds := [.data], laidTests := true, laidLooks := .later }
def SumRunningCardSaid : Prop := Claim7.holds Tryd.pinned (.plain (OpenSpec.ofChange sumRunningSpec)) sumRunningCard

/-- THE SECOND FORM's CARD OF 'binnaclelaw05.SumRunning'. -/
def sumRunningUptoCard : Claim7 := { stood := { row := sumRunningUptoRow, standIns := [], harness := (true, "635bacf7b0a002a37a3cca90f6667870c027f67b575def9ab527ab06a4e09391"), looks := false }, kinds := [], alts := [], laidByText := true, laidKinds := [.data], laidTests := true, laidLooks := .later }
def SumRunningUptoCardSaid : Prop := Claim7.holds Tryd.pinned (.plain (OpenSpec.upto sumRunningSpec)) sumRunningUptoCard
end Rows
end Go.Proofs.YtjoajbbapfgaoaaDoor
