/- Walks: the references' whole numbers (binnacleref00): Rsh, BitLen, TrailingZeroBits, Uint64; words of 32 bits. Printed by wip/gen/rf7.py. -/
import Derived.Test.YtphaikdbldfpaaaGreatDoorGF
import Derived.Test.YtphaikdbldfpaaaGreatDoorGK
import Derived.Test.YtphaikdbldfpaaaGreatDoorGC
import Derived.Shelf.Small.Bits
namespace Go.Proofs.YtphaikdbldfpaaaGreatDoor
open Go.RowKit

/-- The table of TrailingZeros32 in its variable. -/
def Tab32 (w : World) : Prop := TabAt 2 Lib.deBruijn32tab w

theorem Tab32.below {w w' : World} (h : Tab32 w) (hs : 2 < w.heap.size) (hb : Below w.heap.size w w') : Tab32 w' :=
  fun i hi => (hb.cell (p := ⟨2, i, none⟩) hs).trans (h i hi)

end Go.Proofs.YtphaikdbldfpaaaGreatDoor
