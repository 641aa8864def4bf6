/- The middle, the radius and the width of an interval. Plain. -/
import Derived.Test.YthkhignbmefmjaaGreatDoorID
import Derived.Test.YthkhignbmefmjaaGreatDoorGC
import Derived.Test.YthkhignbmefmjaaGreatDoorHB
import Derived.Test.YthkhignbmefmjaaGreatDoorGY
import Derived.Deep.CutRange
namespace Go.Proofs.YthkhignbmefmjaaGreatDoor
open Go.RowKit
theorem up_sum {x y : Nat} (fx : finB x = true) (fy : finB y = true) : 0 ≤ plE (valZ x) (pE x) (valZ y) (pE y) + 1074 ∧ sc 1074 (plZ (valZ x) (pE x) (valZ y) (pE y)) (plE (valZ x) (pE x) (valZ y) (pE y)) = fI x + fI y := by
 have e1 := pE_bd fx
 have e2 := pE_bd fy
 exact ⟨plE_ge (by omega) (by omega), sc_pl (by omega) (by omega)⟩
end Go.Proofs.YthkhignbmefmjaaGreatDoor
