/-
  DERIVED. GIVEN WITH THE SEED: THE CARDS: each row of YtjoajbbapfgaoaaGreatDoorRows.lean that lists a variable, with what it lists TIED to the program's text (the seventh form; the later family's looks); each row that meets fmt, with fmt's text TOLD by the authors' own Lean function (tested against real Go, not proved from fmt's source: count such statements apart). THE CARD IS WHAT COUNTS. Prove the row's statement (the work); the ties are given (YtjoajbbapfgaoaaGreatDoorTie.lean); close each card by the builder's one call (the guide's Derived/Test/ToyasCard.lean, 'card_holds'). Laid BY PROGRAM, IN A SANDBOX (cutbox-door.mjs). By AI agents, Wed Nov 11 2026. No macro, syntax, notation, axiom, sorry.
-/
import Derived.Test.YtjoajbbapfgaoaaGreatDoorRows
import GoSem.ClaimSeven
namespace Go.Proofs.YtjoajbbapfgaoaaGreatDoor
namespace Rows

/-- THE TIED CARD OF 'binnaclelaw03.DyadMakes'. -/
def dyadMakesCard : Claim7 := { stood := { row := dyadMakesRow, standIns := [], harness := (true, "c708562ad7766324b0c6b414438b0da00665bec1ab8f19b3dc2d34948b7fab7a"), looks := false }, kinds := [], alts := [], laidByText := true, laidKinds := [.data, .data], laidTests := true, laidLooks := .later }
def DyadMakesCardSaid : Prop := Claim7.holds Tryz.pinned (.plain (OpenSpec.ofChange dyadMakesSpec)) dyadMakesCard

/-- THE TIED CARD OF 'binnaclelaw03.DyadRounds'. -/
def dyadRoundsCard : Claim7 := { stood := { row := dyadRoundsRow, standIns := [], harness := (true, "c708562ad7766324b0c6b414438b0da00665bec1ab8f19b3dc2d34948b7fab7a"), looks := false }, kinds := [], alts := [], laidByText := true, laidKinds := [.data, .data], laidTests := true, laidLooks := .later }
def DyadRoundsCardSaid : Prop := Claim7.holds Tryz.pinned (.plain (OpenSpec.ofChange dyadRoundsSpec)) dyadRoundsCard

/-- THE TIED CARD OF 'binnaclelaw03.DyadSums'. -/
def dyadSumsCard : Claim7 := { stood := { row := dyadSumsRow, standIns := [], harness := (true, "c708562ad7766324b0c6b414438b0da00665bec1ab8f19b3dc2d34948b7fab7a"), looks := false }, kinds := [], alts := [], laidByText := true, laidKinds := [.data, .data], laidTests := true, laidLooks := .later }
def DyadSumsCardSaid : Prop := Claim7.holds Tryz.pinned (.plain (OpenSpec.ofChange dyadSumsSpec)) dyadSumsCard

/-- THE TIED CARD OF 'binnaclelaw03.DyadReckons'. -/
def dyadReckonsCard : Claim7 := { stood := { row := dyadReckonsRow, standIns := [], harness := (true, "c708562ad7766324b0c6b414438b0da00665bec1ab8f19b3dc2d34948b7fab7a"), looks := false }, kinds := [], alts := [], laidByText := true, laidKinds := [.data, .data], laidTests := true, laidLooks := .later }
def DyadReckonsCardSaid : Prop := Claim7.holds Tryz.pinned (.plain (OpenSpec.ofChange dyadReckonsSpec)) dyadReckonsCard

/-- THE TIED CARD OF 'binnaclelaw05.SumNearest'. -/
def sumNearestCard : Claim7 := { stood := { row := sumNearestRow, standIns := [], harness := (true, "c708562ad7766324b0c6b414438b0da00665bec1ab8f19b3dc2d34948b7fab7a"), looks := false }, kinds := [], alts := [], laidByText := true, laidKinds := [.data], laidTests := true, laidLooks := .later }
def SumNearestCardSaid : Prop := Claim7.holds Tryz.pinned (.plain (OpenSpec.ofChange sumNearestSpec)) sumNearestCard

/-- THE TIED CARD OF 'binnaclelaw05.SumWays'. -/
def sumWaysCard : Claim7 := { stood := { row := sumWaysRow, standIns := [], harness := (true, "c708562ad7766324b0c6b414438b0da00665bec1ab8f19b3dc2d34948b7fab7a"), looks := false }, kinds := [], alts := [], laidByText := true, laidKinds := [.data, .data], laidTests := true, laidLooks := .later }
def SumWaysCardSaid : Prop := Claim7.holds Tryz.pinned (.plain (OpenSpec.ofChange sumWaysSpec)) sumWaysCard

/-- THE TIED CARD OF 'binnaclelaw05.SumBounds'. -/
def sumBoundsCard : Claim7 := { stood := { row := sumBoundsRow, standIns := [], harness := (true, "c708562ad7766324b0c6b414438b0da00665bec1ab8f19b3dc2d34948b7fab7a"), looks := false }, kinds := [], alts := [], laidByText := true, laidKinds := [.data], laidTests := true, laidLooks := .later }
def SumBoundsCardSaid : Prop := Claim7.holds Tryz.pinned (.plain (OpenSpec.ofChange sumBoundsSpec)) sumBoundsCard

/-- THE TIED CARD OF 'binnaclelaw05.SumOff'. -/
def sumOffCard : Claim7 := { stood := { row := sumOffRow, standIns := [], harness := (true, "c708562ad7766324b0c6b414438b0da00665bec1ab8f19b3dc2d34948b7fab7a"), looks := false }, kinds := [], alts := [], laidByText := true, laidKinds := [.data, .data], laidTests := true, laidLooks := .later }
def SumOffCardSaid : Prop := Claim7.holds Tryz.pinned (.plain (OpenSpec.ofChange sumOffSpec)) sumOffCard

/-- THE TIED CARD OF 'binnaclelaw05.SumDots'. -/
def sumDotsCard : Claim7 := { stood := { row := sumDotsRow, standIns := [], harness := (true, "c708562ad7766324b0c6b414438b0da00665bec1ab8f19b3dc2d34948b7fab7a"), looks := false }, kinds := [], alts := [], laidByText := true, laidKinds := [.data, .data], laidTests := true, laidLooks := .later }
def SumDotsCardSaid : Prop := Claim7.holds Tryz.pinned (.plain (OpenSpec.ofChange sumDotsSpec)) sumDotsCard

/-- THE TIED CARD OF 'binnaclelaw05.SumNoOrder'. -/
def sumNoOrderCard : Claim7 := { stood := { row := sumNoOrderRow, standIns := [], harness := (true, "c708562ad7766324b0c6b414438b0da00665bec1ab8f19b3dc2d34948b7fab7a"), looks := false }, kinds := [], alts := [], laidByText := true, laidKinds := [.data], laidTests := true, laidLooks := .later }
def SumNoOrderCardSaid : Prop := Claim7.holds Tryz.pinned (.plain (OpenSpec.ofChange sumNoOrderSpec)) sumNoOrderCard

/-- THE TIED CARD OF 'binnaclelaw05.SumMeans'. -/
def sumMeansCard : Claim7 := { stood := { row := sumMeansRow, standIns := [], harness := (true, "c708562ad7766324b0c6b414438b0da00665bec1ab8f19b3dc2d34948b7fab7a"), looks := false }, kinds := [], alts := [], laidByText := true, laidKinds := [.data, .data], laidTests := true, laidLooks := .later }
def SumMeansCardSaid : Prop := Claim7.holds Tryz.pinned (.plain (OpenSpec.ofChange sumMeansSpec)) sumMeansCard

/-- THE SECOND FORM's CARD OF 'binnaclelaw03.DyadMakes'. -/
def dyadMakesUptoCard : Claim7 := { stood := { row := dyadMakesUptoRow, standIns := [], harness := (true, "c708562ad7766324b0c6b414438b0da00665bec1ab8f19b3dc2d34948b7fab7a"), looks := false }, kinds := [], alts := [], laidByText := true, laidKinds := [.data, .data], laidTests := true, laidLooks := .later }
def DyadMakesUptoCardSaid : Prop := Claim7.holds Tryz.pinned (.plain (OpenSpec.upto dyadMakesSpec)) dyadMakesUptoCard

/-- THE SECOND FORM's CARD OF 'binnaclelaw03.DyadRounds'. -/
def dyadRoundsUptoCard : Claim7 := { stood := { row := dyadRoundsUptoRow, standIns := [], harness := (true, "c708562ad7766324b0c6b414438b0da00665bec1ab8f19b3dc2d34948b7fab7a"), looks := false }, kinds := [], alts := [], laidByText := true, laidKinds := [.data, .data], laidTests := true, laidLooks := .later }
def DyadRoundsUptoCardSaid : Prop := Claim7.holds Tryz.pinned (.plain (OpenSpec.upto dyadRoundsSpec)) dyadRoundsUptoCard

/-- THE SECOND FORM's CARD OF 'binnaclelaw03.DyadSums'. -/
def dyadSumsUptoCard : Claim7 := { stood := { row := dyadSumsUptoRow, standIns := [], harness := (true, "c708562ad7766324b0c6b414438b0da00665bec1ab8f19b3dc2d34948b7fab7a"), looks := false }, kinds := [], alts := [], laidByText := true, laidKinds := [.data, .data], laidTests := true, laidLooks := .later }
def DyadSumsUptoCardSaid : Prop := Claim7.holds Tryz.pinned (.plain (OpenSpec.upto dyadSumsSpec)) dyadSumsUptoCard

/-- THE SECOND FORM's CARD OF 'binnaclelaw03.DyadReckons'. -/
def dyadReckonsUptoCard : Claim7 := { stood := { row := dyadReckonsUptoRow, standIns := [], harness := (true, "c708562ad7766324b0c6b414438b0da00665bec1ab8f19b3dc2d34948b7fab7a"), looks := false }, kinds := [], alts := [], laidByText := true, laidKinds := [.data, .data], laidTests := true, laidLooks := .later }
def DyadReckonsUptoCardSaid : Prop := Claim7.holds Tryz.pinned (.plain (OpenSpec.upto dyadReckonsSpec)) dyadReckonsUptoCard

/-- THE SECOND FORM's CARD OF 'binnaclelaw05.SumNearest'. -/
def sumNearestUptoCard : Claim7 := { stood := { row := sumNearestUptoRow, standIns := [], harness := (true, "c708562ad7766324b0c6b414438b0da00665bec1ab8f19b3dc2d34948b7fab7a"), looks := false }, kinds := [], alts := [], laidByText := true, laidKinds := [.data], laidTests := true, laidLooks := .later }
def SumNearestUptoCardSaid : Prop := Claim7.holds Tryz.pinned (.plain (OpenSpec.upto sumNearestSpec)) sumNearestUptoCard

/-- THE SECOND FORM's CARD OF 'binnaclelaw05.SumWays'. -/
def sumWaysUptoCard : Claim7 := { stood := { row := sumWaysUptoRow, standIns := [], harness := (true, "c708562ad7766324b0c6b414438b0da00665bec1ab8f19b3dc2d34948b7fab7a"), looks := false }, kinds := [], alts := [], laidByText := true, laidKinds := [.data, .data], laidTests := true, laidLooks := .later }
def SumWaysUptoCardSaid : Prop := Claim7.holds Tryz.pinned (.plain (OpenSpec.upto sumWaysSpec)) sumWaysUptoCard

/-- THE SECOND FORM's CARD OF 'binnaclelaw05.SumBounds'. -/
def sumBoundsUptoCard : Claim7 := { stood := { row := sumBoundsUptoRow, standIns := [], harness := (true, "c708562ad7766324b0c6b414438b0da00665bec1ab8f19b3dc2d34948b7fab7a"), looks := false }, kinds := [], alts := [], laidByText := true, laidKinds := [.data], laidTests := true, laidLooks := .later }
def SumBoundsUptoCardSaid : Prop := Claim7.holds Tryz.pinned (.plain (OpenSpec.upto sumBoundsSpec)) sumBoundsUptoCard

/-- THE SECOND FORM's CARD OF 'binnaclelaw05.SumOff'. -/
def sumOffUptoCard : Claim7 := { stood := { row := sumOffUptoRow, standIns := [], harness := (true, "c708562ad7766324b0c6b414438b0da00665bec1ab8f19b3dc2d34948b7fab7a"), looks := false }, kinds := [], alts := [], laidByText := true, laidKinds := [.data, .data], laidTests := true, laidLooks := .later }
def SumOffUptoCardSaid : Prop := Claim7.holds Tryz.pinned (.plain (OpenSpec.upto sumOffSpec)) sumOffUptoCard

/-- THE SECOND FORM's CARD OF 'binnaclelaw05.SumDots'. -/
def sumDotsUptoCard : Claim7 := { stood := { row := sumDotsUptoRow, standIns := [], harness := (true, "c708562ad7766324b0c6b414438b0da00665bec1ab8f19b3dc2d34948b7fab7a"), looks := false }, kinds := [], alts := [], laidByText := true, laidKinds := [.data, .data], laidTests := true, laidLooks := .later }
def SumDotsUptoCardSaid : Prop := Claim7.holds Tryz.pinned (.plain (OpenSpec.upto sumDotsSpec)) sumDotsUptoCard

/-- THE SECOND FORM's CARD OF 'binnaclelaw05.SumNoOrder'. -/
def sumNoOrderUptoCard : Claim7 := { stood := { row := sumNoOrderUptoRow, standIns := [], harness := (true, "c708562ad7766324b0c6b414438b0da00665bec1ab8f19b3dc2d34948b7fab7a"), looks := false }, kinds := [], alts := [], laidByText := true, laidKinds := [.data], laidTests := true, laidLooks := .later }
def SumNoOrderUptoCardSaid : Prop := Claim7.holds Tryz.pinned (.plain (OpenSpec.upto sumNoOrderSpec)) sumNoOrderUptoCard

/-- THE SECOND FORM's CARD OF 'binnaclelaw05.SumMeans'. -/
def sumMeansUptoCard : Claim7 := { stood := { row := sumMeansUptoRow, standIns := [], harness := (true, "c708562ad7766324b0c6b414438b0da00665bec1ab8f19b3dc2d34948b7fab7a"), looks := false }, kinds := [], alts := [], laidByText := true, laidKinds := [.data, .data], laidTests := true, laidLooks := .later }
def SumMeansUptoCardSaid : Prop := Claim7.holds Tryz.pinned (.plain (OpenSpec.upto sumMeansSpec)) sumMeansUptoCard
end Rows
end Go.Proofs.YtjoajbbapfgaoaaGreatDoor
