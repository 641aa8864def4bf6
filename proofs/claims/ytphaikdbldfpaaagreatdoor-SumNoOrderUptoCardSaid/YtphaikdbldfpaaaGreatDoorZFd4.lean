/- Walk: SumDots. Printed by wip/gen/fd4.py. -/
import Derived.Test.YtphaikdbldfpaaaGreatDoorZFd2
import Derived.Test.YtphaikdbldfpaaaGreatDoorGW
import Derived.Test.YtphaikdbldfpaaaGreatDoorGR
import Derived.Test.YtphaikdbldfpaaaGreatDoorZFw1
import Derived.Test.YtphaikdbldfpaaaGreatDoorZRi1
import Derived.Test.YtphaikdbldfpaaaGreatDoorGT
namespace Go.Proofs.YtphaikdbldfpaaaGreatDoor
open Go.RowKit

/-- What the exact dot product answers: the number, the error's. -/
def dexR (l m : List Nat) : Nat := if l.length = m.length then (if 4096 < l.length then 0 else dexB l m) else 0
def dexE (l m : List Nat) : Int := if l.length = m.length then (if 4096 < l.length then 2 else 0) else 3

theorem dotX_any (va vb : Value) (l m : List Nat) (w : World) (hl : FSl w va l) (hm : FSl w vb m) (hT : Tab64 w) (hTs : 1 < w.heap.size) :
    Calls Tryz.prog 11 #[va, vb] w (Gives (.tuple #[.float .f64 (dexR l m), .int .i64 (dexE l m)]) w) := by
  unfold dexR dexE
  by_cases h : l.length = m.length
  · rw [if_pos h, if_pos h]
    by_cases h2 : 4096 < l.length
    · rw [if_pos h2, if_pos h2]; exact dotX_long va vb l m w hl hm h h2
    · rw [if_neg h2, if_neg h2]; exact dotX_ok va vb l m w hl hm h (by omega) hT hTs
  · rw [if_neg h, if_neg h]; exact dotX_bad va vb l m w hl hm h

theorem canon_dexR (l m : List Nat) : canonB (dexR l m) = dexR l m := by
  unfold dexR
  split
  · split
    · decide
    · unfold dexB
      split
      · exact canon_cO _
      · unfold rndX
        split
        · decide
        · rename_i h
          unfold canonB
          rw [rnd_nan h]; rfl
  · decide

end Go.Proofs.YtphaikdbldfpaaaGreatDoor
