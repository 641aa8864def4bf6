/- Walks: the dot product in order (program, references). -/
import Derived.Test.YtphaikdbldfpaaaGreatDoorGV
import Derived.Test.YtphaikdbldfpaaaGreatDoorGC
namespace Go.Proofs.YtphaikdbldfpaaaGreatDoor
open Go.RowKit

theorem getD_at {l : List Nat} {k : Nat} (h : k < l.length) : l.getD k 0 = l[k] := by simp [h]

theorem fN_two (o1 o2 : BinOp) (a b c d : Nat) {w wr : World} (h : Below w.heap.size w wr) : Below w.heap.size w (fN o1 a b (fN o2 c d wr)) :=
  h.trans (((fN_below o2 c d wr).trans ((fN_below o1 a b _).mono (fN_below o2 c d wr).size)).mono h.size)

end Go.Proofs.YtphaikdbldfpaaaGreatDoor
