/-
  DERIVED. GIVEN WITH THE SEED: THE CARDS: each row of YtfjhhhccimpnjaaGreatDoorRows.lean that lists a variable, with what it lists TIED to the program's text (the seventh form; the later family's looks); each row that meets fmt, with fmt's text TOLD by the authors' own Lean function (tested against real Go, not proved from fmt's source: count such statements apart). THE CARD IS WHAT COUNTS. Prove the row's statement (the work); the ties are given (YtfjhhhccimpnjaaGreatDoorTie.lean); close each card by the builder's one call (the guide's Derived/Test/ToyasCard.lean, 'card_holds'). Laid BY PROGRAM, IN A SANDBOX (cutbox-door.mjs). By AI agents, Wed Nov 11 2026. No macro, syntax, notation, axiom, sorry.
-/
import Derived.Test.YtfjhhhccimpnjaaGreatDoorRows
import GoSem.ClaimSeven
namespace Go.Proofs.YtfjhhhccimpnjaaGreatDoor
namespace Rows

/-- THE TIED CARD OF 'binnaclelaw06.IntervalSets'. -/
def intervalSetsCard : Claim7 := { stood := { row := intervalSetsRow, standIns := [], harness := (true, "dfde7bbf91bb912cdd0f238ed275558c19b0bffc168094ed96f523e1299db255"), looks := false }, kinds := [], alts := [], laidByText := true, laidKinds := [.data], laidTests := true, laidLooks := .later }
def IntervalSetsCardSaid : Prop := Claim7.holds Tryz.pinned (.plain (OpenSpec.ofChange intervalSetsSpec)) intervalSetsCard

/-- THE SECOND FORM's CARD OF 'binnaclelaw06.IntervalSets'. -/
def intervalSetsUptoCard : Claim7 := { stood := { row := intervalSetsUptoRow, standIns := [], harness := (true, "dfde7bbf91bb912cdd0f238ed275558c19b0bffc168094ed96f523e1299db255"), looks := false }, kinds := [], alts := [], laidByText := true, laidKinds := [.data], laidTests := true, laidLooks := .later }
def IntervalSetsUptoCardSaid : Prop := Claim7.holds Tryz.pinned (.plain (OpenSpec.upto intervalSetsSpec)) intervalSetsUptoCard
end Rows
end Go.Proofs.YtfjhhhccimpnjaaGreatDoor
