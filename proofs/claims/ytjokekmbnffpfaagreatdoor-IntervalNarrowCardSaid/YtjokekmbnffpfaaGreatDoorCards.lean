/-
  DERIVED. GIVEN WITH THE SEED: THE CARDS: each row of YtjokekmbnffpfaaGreatDoorRows.lean that lists a variable, with what it lists TIED to the program's text (the seventh form; the later family's looks); each row that meets fmt, with fmt's text TOLD by the authors' own Lean function (tested against real Go, not proved from fmt's source: count such statements apart). THE CARD IS WHAT COUNTS. Prove the row's statement (the work); the ties are given (YtjokekmbnffpfaaGreatDoorTie.lean); close each card by the builder's one call (the guide's Derived/Test/ToyasCard.lean, 'card_holds'). Laid BY PROGRAM, IN A SANDBOX (cutbox-door.mjs). By AI agents, Wed Nov 11 2026. No macro, syntax, notation, axiom, sorry.
-/
import Derived.Test.YtjokekmbnffpfaaGreatDoorRows
import GoSem.ClaimSeven
namespace Go.Proofs.YtjokekmbnffpfaaGreatDoor
namespace Rows

/-- THE TIED CARD OF 'binnaclelaw06.IntervalDots'. -/
def intervalDotsCard : Claim7 := { stood := { row := intervalDotsRow, standIns := [], harness := (true, "77ab8f9c5ebe983a8cc08c736a38521ca2f6e56adc54c677b619d7259e78bcbd"), looks := false }, kinds := [], alts := [], laidByText := true, laidKinds := [.data], laidTests := true, laidLooks := .later }
def IntervalDotsCardSaid : Prop := Claim7.holds Tryz.pinned (.plain (OpenSpec.ofChange intervalDotsSpec)) intervalDotsCard

/-- THE TIED CARD OF 'binnaclelaw06.IntervalNarrow'. -/
def intervalNarrowCard : Claim7 := { stood := { row := intervalNarrowRow, standIns := [], harness := (true, "77ab8f9c5ebe983a8cc08c736a38521ca2f6e56adc54c677b619d7259e78bcbd"), looks := false }, kinds := [], alts := [], laidByText := true, laidKinds := [.data], laidTests := true, laidLooks := .later }
def IntervalNarrowCardSaid : Prop := Claim7.holds Tryz.pinned (.plain (OpenSpec.ofChange intervalNarrowSpec)) intervalNarrowCard

/-- THE TIED CARD OF 'binnaclelaw06.IntervalCentre'. -/
def intervalCentreCard : Claim7 := { stood := { row := intervalCentreRow, standIns := [], harness := (true, "77ab8f9c5ebe983a8cc08c736a38521ca2f6e56adc54c677b619d7259e78bcbd"), looks := false }, kinds := [], alts := [], laidByText := true, laidKinds := [.data], laidTests := true, laidLooks := .later }
def IntervalCentreCardSaid : Prop := Claim7.holds Tryz.pinned (.plain (OpenSpec.ofChange intervalCentreSpec)) intervalCentreCard

/-- THE TIED CARD OF 'binnaclelaw06.IntervalEncloses'. -/
def intervalEnclosesCard : Claim7 := { stood := { row := intervalEnclosesRow, standIns := [], harness := (true, "77ab8f9c5ebe983a8cc08c736a38521ca2f6e56adc54c677b619d7259e78bcbd"), looks := false }, kinds := [], alts := [], laidByText := true, laidKinds := [.data], laidTests := true, laidLooks := .later }
def IntervalEnclosesCardSaid : Prop := Claim7.holds Tryz.pinned (.plain (OpenSpec.ofChange intervalEnclosesSpec)) intervalEnclosesCard

/-- THE SECOND FORM's CARD OF 'binnaclelaw06.IntervalDots'. -/
def intervalDotsUptoCard : Claim7 := { stood := { row := intervalDotsUptoRow, standIns := [], harness := (true, "77ab8f9c5ebe983a8cc08c736a38521ca2f6e56adc54c677b619d7259e78bcbd"), looks := false }, kinds := [], alts := [], laidByText := true, laidKinds := [.data], laidTests := true, laidLooks := .later }
def IntervalDotsUptoCardSaid : Prop := Claim7.holds Tryz.pinned (.plain (OpenSpec.upto intervalDotsSpec)) intervalDotsUptoCard

/-- THE SECOND FORM's CARD OF 'binnaclelaw06.IntervalNarrow'. -/
def intervalNarrowUptoCard : Claim7 := { stood := { row := intervalNarrowUptoRow, standIns := [], harness := (true, "77ab8f9c5ebe983a8cc08c736a38521ca2f6e56adc54c677b619d7259e78bcbd"), looks := false }, kinds := [], alts := [], laidByText := true, laidKinds := [.data], laidTests := true, laidLooks := .later }
def IntervalNarrowUptoCardSaid : Prop := Claim7.holds Tryz.pinned (.plain (OpenSpec.upto intervalNarrowSpec)) intervalNarrowUptoCard

/-- THE SECOND FORM's CARD OF 'binnaclelaw06.IntervalCentre'. -/
def intervalCentreUptoCard : Claim7 := { stood := { row := intervalCentreUptoRow, standIns := [], harness := (true, "77ab8f9c5ebe983a8cc08c736a38521ca2f6e56adc54c677b619d7259e78bcbd"), looks := false }, kinds := [], alts := [], laidByText := true, laidKinds := [.data], laidTests := true, laidLooks := .later }
def IntervalCentreUptoCardSaid : Prop := Claim7.holds Tryz.pinned (.plain (OpenSpec.upto intervalCentreSpec)) intervalCentreUptoCard

/-- THE SECOND FORM's CARD OF 'binnaclelaw06.IntervalEncloses'. -/
def intervalEnclosesUptoCard : Claim7 := { stood := { row := intervalEnclosesUptoRow, standIns := [], harness := (true, "77ab8f9c5ebe983a8cc08c736a38521ca2f6e56adc54c677b619d7259e78bcbd"), looks := false }, kinds := [], alts := [], laidByText := true, laidKinds := [.data], laidTests := true, laidLooks := .later }
def IntervalEnclosesUptoCardSaid : Prop := Claim7.holds Tryz.pinned (.plain (OpenSpec.upto intervalEnclosesSpec)) intervalEnclosesUptoCard
end Rows
end Go.Proofs.YtjokekmbnffpfaaGreatDoor
