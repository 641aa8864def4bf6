/- Walk: DyadSums. Printed by wip/gen/sums.py. -/
import Derived.Test.YtlhebpoiakpkoaaGreatDoorGR
namespace Go.Proofs.YtlhebpoiakpkoaaGreatDoor
open Go.RowKit

theorem XIs.of {z e : Int} {w : World} {b : Nat} {x : Int} (bad : Int) (h : RInt w b z ∧ x = e ∧ bl z.natAbs ≤ 68719476736 ∧ -1099511627776 ≤ e ∧ e ≤ 1099511627776) : XIs bad z e w b x := fun _ => h
theorem XIs.below {bad z e : Int} {w w' : World} {b : Nat} {x : Int} (h : XIs bad z e w b x) (hb : Below w.heap.size w w') : XIs bad z e w' b x := fun h0 => ⟨(h h0).1.below hb, (h h0).2⟩

end Go.Proofs.YtlhebpoiakpkoaaGreatDoor
