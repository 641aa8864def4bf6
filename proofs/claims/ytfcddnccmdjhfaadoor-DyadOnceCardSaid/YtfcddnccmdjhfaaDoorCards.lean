/-
  DERIVED. GIVEN WITH THE SEED: THE CARDS: each row of YtfcddnccmdjhfaaDoorRows.lean that lists a variable, with what it lists TIED to the program's text (the seventh form; the later family's looks); each row that meets fmt, with fmt's text TOLD by the authors' own Lean function (tested against real Go, not proved from fmt's source: count such statements apart). THE CARD IS WHAT COUNTS. Prove the row's statement (the work); the ties are given (YtfcddnccmdjhfaaDoorTie.lean); close each card by the builder's one call (the guide's Derived/Test/ToyasCard.lean, 'card_holds'). Laid BY PROGRAM, IN A SANDBOX (cutbox-door.mjs). By AI agents, Wed Nov 11 2026. No macro, syntax, notation, axiom, sorry.
-/
import Derived.Test.YtfcddnccmdjhfaaDoorRows
import GoSem.ClaimSeven
namespace Go.Proofs.YtfcddnccmdjhfaaDoor
namespace Rows

/-- THE TIED CARD OF 'binnaclelaw03.DyadFresh'. -/
def dyadFreshCard : Claim7 := { stood := { row := dyadFreshRow, standIns := [], harness := (true, "a2145232b0e54d92462687b774b754d287639a917d8cf2b55a9ffb600620c216"), looks := false }, kinds := [], alts := [], laidByText := true, laidKinds := [.data], laidTests := true, laidLooks := .later }
def DyadFreshCardSaid : Prop := Claim7.holds Tryd.pinned (.plain (OpenSpec.ofChange dyadFreshSpec)) dyadFreshCard

/-- THE TIED CARD OF 'binnaclelaw03.DyadRing'. -/
def dyadRingCard : Claim7 := { stood := { row := dyadRingRow, standIns := [], harness := (true, "a2145232b0e54d92462687b774b754d287639a917d8cf2b55a9ffb600620c216"), looks := false }, kinds := [], alts := [], laidByText := true, laidKinds := [.data], laidTests := true, laidLooks := .later }
def DyadRingCardSaid : Prop := Claim7.holds Tryd.pinned (.plain (OpenSpec.ofChange dyadRingSpec)) dyadRingCard

/-- THE TIED CARD OF 'binnaclelaw03.DyadOnce'. -/
def dyadOnceCard : Claim7 := { stood := { row := dyadOnceRow, standIns := [], harness := (true, "a2145232b0e54d92462687b774b754d287639a917d8cf2b55a9ffb600620c216"), looks := false }, kinds := [], alts := [], laidByText := true, laidKinds := [.data], laidTests := true, laidLooks := .later }
def DyadOnceCardSaid : Prop := Claim7.holds Tryd.pinned (.plain (OpenSpec.ofChange dyadOnceSpec)) dyadOnceCard

/-- THE SECOND FORM's CARD OF 'binnaclelaw03.DyadFresh'. -/
def dyadFreshUptoCard : Claim7 := { stood := { row := dyadFreshUptoRow, standIns := [], harness := (true, "a2145232b0e54d92462687b774b754d287639a917d8cf2b55a9ffb600620c216"), looks := false }, kinds := [], alts := [], laidByText := true, laidKinds := [.data], laidTests := true, laidLooks := .later }
def DyadFreshUptoCardSaid : Prop := Claim7.holds Tryd.pinned (.plain (OpenSpec.upto dyadFreshSpec)) dyadFreshUptoCard

/-- THE SECOND FORM's CARD OF 'binnaclelaw03.DyadRing'. -/
def dyadRingUptoCard : Claim7 := { stood := { row := dyadRingUptoRow, standIns := [], harness := (true, "a2145232b0e54d92462687b774b754d287639a917d8cf2b55a9ffb600620c216"), looks := false }, kinds := [], alts := [], laidByText := true, laidKinds := [.data], laidTests := true, laidLooks := .later }
def DyadRingUptoCardSaid : Prop := Claim7.holds Tryd.pinned (.plain (OpenSpec.upto dyadRingSpec)) dyadRingUptoCard

/-- THE SECOND FORM's CARD OF 'binnaclelaw03.DyadOnce'. -/
def dyadOnceUptoCard : Claim7 := { stood := { row := dyadOnceUptoRow, standIns := [], harness := (true, "a2145232b0e54d92462687b774b754d287639a917d8cf2b55a9ffb600620c216"), looks := false }, kinds := [], alts := [], laidByText := true, laidKinds := [.data], laidTests := true, laidLooks := .later }
def DyadOnceUptoCardSaid : Prop := Claim7.holds Tryd.pinned (.plain (OpenSpec.upto dyadOnceSpec)) dyadOnceUptoCard
end Rows
end Go.Proofs.YtfcddnccmdjhfaaDoor
