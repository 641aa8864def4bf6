/-
  DERIVED. GIVEN WITH THE SEED: THE CARDS: each row of YtphaikdbldfpaaaGreatDoorRows.lean that lists a variable, with what it lists TIED to the program's text (the seventh form; the later family's looks); each row that meets fmt, with fmt's text TOLD by the authors' own Lean function (tested against real Go, not proved from fmt's source: count such statements apart). THE CARD IS WHAT COUNTS. Prove the row's statement (the work); the ties are given (YtphaikdbldfpaaaGreatDoorTie.lean); close each card by the builder's one call (the guide's Derived/Test/ToyasCard.lean, 'card_holds'). Laid BY PROGRAM, IN A SANDBOX (cutbox-door.mjs). By AI agents, Wed Nov 11 2026. No macro, syntax, notation, axiom, sorry.
-/
import Derived.Test.YtphaikdbldfpaaaGreatDoorRows
import GoSem.ClaimSeven
namespace Go.Proofs.YtphaikdbldfpaaaGreatDoor
namespace Rows

/-- THE TIED CARD OF 'binnaclelaw05.SumNoOrder'. -/
def sumNoOrderCard : Claim7 := { stood := { row := sumNoOrderRow, standIns := [], harness := (true, "c7aca848a61092f18ec56ee0682c2238f9c9a932dfc24ac6da3d3df4f07200d3"), looks := false }, kinds := [], alts := [], laidByText := true, laidKinds := [.data], laidTests := true, laidLooks := .later }
def SumNoOrderCardSaid : Prop := Claim7.holds Tryz.pinned (.plain (OpenSpec.ofChange sumNoOrderSpec)) sumNoOrderCard

/-- THE TIED CARD OF 'binnaclelaw05.SumMeans'. -/
def sumMeansCard : Claim7 := { stood := { row := sumMeansRow, standIns := [], harness := (true, "c7aca848a61092f18ec56ee0682c2238f9c9a932dfc24ac6da3d3df4f07200d3"), looks := false }, kinds := [], alts := [], laidByText := true, laidKinds := [.data, .data], laidTests := true, laidLooks := .later }
def SumMeansCardSaid : Prop := Claim7.holds Tryz.pinned (.plain (OpenSpec.ofChange sumMeansSpec)) sumMeansCard

/-- THE SECOND FORM's CARD OF 'binnaclelaw05.SumNoOrder'. -/
def sumNoOrderUptoCard : Claim7 := { stood := { row := sumNoOrderUptoRow, standIns := [], harness := (true, "c7aca848a61092f18ec56ee0682c2238f9c9a932dfc24ac6da3d3df4f07200d3"), looks := false }, kinds := [], alts := [], laidByText := true, laidKinds := [.data], laidTests := true, laidLooks := .later }
def SumNoOrderUptoCardSaid : Prop := Claim7.holds Tryz.pinned (.plain (OpenSpec.upto sumNoOrderSpec)) sumNoOrderUptoCard

/-- THE SECOND FORM's CARD OF 'binnaclelaw05.SumMeans'. -/
def sumMeansUptoCard : Claim7 := { stood := { row := sumMeansUptoRow, standIns := [], harness := (true, "c7aca848a61092f18ec56ee0682c2238f9c9a932dfc24ac6da3d3df4f07200d3"), looks := false }, kinds := [], alts := [], laidByText := true, laidKinds := [.data, .data], laidTests := true, laidLooks := .later }
def SumMeansUptoCardSaid : Prop := Claim7.holds Tryz.pinned (.plain (OpenSpec.upto sumMeansSpec)) sumMeansUptoCard
end Rows
end Go.Proofs.YtphaikdbldfpaaaGreatDoor
