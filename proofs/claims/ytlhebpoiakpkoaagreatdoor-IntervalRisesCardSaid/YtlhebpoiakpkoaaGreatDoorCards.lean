/-
  DERIVED. GIVEN WITH THE SEED: THE CARDS: each row of YtlhebpoiakpkoaaGreatDoorRows.lean that lists a variable, with what it lists TIED to the program's text (the seventh form; the later family's looks); each row that meets fmt, with fmt's text TOLD by the authors' own Lean function (tested against real Go, not proved from fmt's source: count such statements apart). THE CARD IS WHAT COUNTS. Prove the row's statement (the work); the ties are given (YtlhebpoiakpkoaaGreatDoorTie.lean); close each card by the builder's one call (the guide's Derived/Test/ToyasCard.lean, 'card_holds'). Laid BY PROGRAM, IN A SANDBOX (cutbox-door.mjs). By AI agents, Wed Nov 11 2026. No macro, syntax, notation, axiom, sorry.
-/
import Derived.Test.YtlhebpoiakpkoaaGreatDoorRows
import GoSem.ClaimSeven
namespace Go.Proofs.YtlhebpoiakpkoaaGreatDoor
namespace Rows

/-- THE TIED CARD OF 'binnaclelaw06.IntervalTells'. -/
def intervalTellsCard : Claim7 := { stood := { row := intervalTellsRow, standIns := [], harness := (true, "9556e6d941966a919394e74ae00c0a76c5ff33d4584975b2d9f9907857378b67"), looks := false }, kinds := [], alts := [], laidByText := true, laidKinds := [.data], laidTests := true, laidLooks := .later }
def IntervalTellsCardSaid : Prop := Claim7.holds Tryz.pinned (.plain (OpenSpec.ofChange intervalTellsSpec)) intervalTellsCard

/-- THE TIED CARD OF 'binnaclelaw06.IntervalTurns'. -/
def intervalTurnsCard : Claim7 := { stood := { row := intervalTurnsRow, standIns := [], harness := (true, "9556e6d941966a919394e74ae00c0a76c5ff33d4584975b2d9f9907857378b67"), looks := false }, kinds := [], alts := [], laidByText := true, laidKinds := [.data], laidTests := true, laidLooks := .later }
def IntervalTurnsCardSaid : Prop := Claim7.holds Tryz.pinned (.plain (OpenSpec.ofChange intervalTurnsSpec)) intervalTurnsCard

/-- THE TIED CARD OF 'binnaclelaw06.IntervalRises'. -/
def intervalRisesCard : Claim7 := { stood := { row := intervalRisesRow, standIns := [], harness := (true, "9556e6d941966a919394e74ae00c0a76c5ff33d4584975b2d9f9907857378b67"), looks := false }, kinds := [], alts := [], laidByText := true, laidKinds := [.data], laidTests := true, laidLooks := .later }
def IntervalRisesCardSaid : Prop := Claim7.holds Tryz.pinned (.plain (OpenSpec.ofChange intervalRisesSpec)) intervalRisesCard

/-- THE SECOND FORM's CARD OF 'binnaclelaw06.IntervalTells'. -/
def intervalTellsUptoCard : Claim7 := { stood := { row := intervalTellsUptoRow, standIns := [], harness := (true, "9556e6d941966a919394e74ae00c0a76c5ff33d4584975b2d9f9907857378b67"), looks := false }, kinds := [], alts := [], laidByText := true, laidKinds := [.data], laidTests := true, laidLooks := .later }
def IntervalTellsUptoCardSaid : Prop := Claim7.holds Tryz.pinned (.plain (OpenSpec.upto intervalTellsSpec)) intervalTellsUptoCard

/-- THE SECOND FORM's CARD OF 'binnaclelaw06.IntervalTurns'. -/
def intervalTurnsUptoCard : Claim7 := { stood := { row := intervalTurnsUptoRow, standIns := [], harness := (true, "9556e6d941966a919394e74ae00c0a76c5ff33d4584975b2d9f9907857378b67"), looks := false }, kinds := [], alts := [], laidByText := true, laidKinds := [.data], laidTests := true, laidLooks := .later }
def IntervalTurnsUptoCardSaid : Prop := Claim7.holds Tryz.pinned (.plain (OpenSpec.upto intervalTurnsSpec)) intervalTurnsUptoCard

/-- THE SECOND FORM's CARD OF 'binnaclelaw06.IntervalRises'. -/
def intervalRisesUptoCard : Claim7 := { stood := { row := intervalRisesUptoRow, standIns := [], harness := (true, "9556e6d941966a919394e74ae00c0a76c5ff33d4584975b2d9f9907857378b67"), looks := false }, kinds := [], alts := [], laidByText := true, laidKinds := [.data], laidTests := true, laidLooks := .later }
def IntervalRisesUptoCardSaid : Prop := Claim7.holds Tryz.pinned (.plain (OpenSpec.upto intervalRisesSpec)) intervalRisesUptoCard
end Rows
end Go.Proofs.YtlhebpoiakpkoaaGreatDoor
