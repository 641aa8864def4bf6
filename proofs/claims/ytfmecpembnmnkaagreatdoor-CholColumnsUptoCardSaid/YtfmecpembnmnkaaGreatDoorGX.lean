/- Walks: the references' exact sum, rounded once. Printed by wip/gen/rexact.py. -/
import Derived.Test.YtfmecpembnmnkaaGreatDoorGW
import Derived.Test.YtfmecpembnmnkaaGreatDoorGR
namespace Go.Proofs.YtfmecpembnmnkaaGreatDoor
open Go.RowKit
theorem neg_back {y : Nat} (h : y < kSign) : Op.negFloat .f64 (kSign + y) = y := by
 rw [← neg_bits h]
 unfold Op.negFloat
 rw [Nat.xor_assoc, Nat.xor_self, Nat.xor_zero]
end Go.Proofs.YtfmecpembnmnkaaGreatDoor
