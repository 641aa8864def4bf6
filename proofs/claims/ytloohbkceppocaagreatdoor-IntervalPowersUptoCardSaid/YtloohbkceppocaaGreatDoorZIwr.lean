/- Plain: how exact numbers stand to each other, told by their values; walks: the law's word 'infinite'. -/
import Derived.Test.YtloohbkceppocaaGreatDoorZIwp
import Derived.Test.YtloohbkceppocaaGreatDoorZBks
import Derived.Test.YtloohbkceppocaaGreatDoorHB
import Derived.Test.YtloohbkceppocaaGreatDoorGV
namespace Go.Proofs.YtloohbkceppocaaGreatDoor
open Go.RowKit
theorem sign_iff (z : Int) : (z.sign ≤ 0 ↔ z ≤ 0) ∧ (0 ≤ z.sign ↔ 0 ≤ z) ∧ (z.sign < 0 ↔ z < 0) ∧ (0 < z.sign ↔ 0 < z) := by
 rcases Int.lt_trichotomy z 0 with h | h | h
 ·rw [Int.sign_eq_neg_one_of_neg h]; omega
 ·rw [h]; decide
 ·rw [Int.sign_eq_one_of_pos h]; omega
end Go.Proofs.YtloohbkceppocaaGreatDoor
