/- What the law asks of sums, products, quotients: as calls that answer true. Blocks in a list: three filled at once. -/
import Derived.Test.YthkhignbmefmjaaGreatDoorID
import Derived.Test.YthkhignbmefmjaaGreatDoorGC
import Derived.Test.YthkhignbmefmjaaGreatDoorHB
import Derived.Test.YthkhignbmefmjaaGreatDoorGY
import Derived.Deep.CutRange
import Derived.Test.YthkhignbmefmjaaGreatDoorZIwp
import Derived.Test.YthkhignbmefmjaaGreatDoorGV
import Derived.Test.YthkhignbmefmjaaGreatDoorGX
import Derived.Test.YthkhignbmefmjaaGreatDoorZNe3
import Derived.Test.YthkhignbmefmjaaGreatDoorGR
namespace Go.Proofs.YthkhignbmefmjaaGreatDoor
open Go.RowKit
theorem fdiv_zero {x y : Nat} (hx : W64 x) (hy : W64 y) (fx : finB x = true) (fy : finB y = true) (x0 : valZ x = 0) (y0 : valZ y ≠ 0) : ∃ r, F6.div x y = some r ∧ W64 r ∧ finB r = true ∧ ky r = 0 := by
 have mx : mantB x = 0 := valZ_zero.1 x0
 have my : mantB y ≠ 0 := fun h => y0 (valZ_zero.2 h)
 have hd : F6.div x y = some (F6.word (sgnB x ^^ sgnB y) 0) := by
  unfold Ieee.Format.div
  rw [read_fin hx fx, read_fin hy fy, F6_frac]
  unfold Ieee.Datum.quotient
  simp only [if_neg my]
  rw [mx, Nat.zero_shiftLeft, Nat.zero_div, Nat.zero_mod]
  rfl
 rw [hd]
 cases sgnB x ^^ sgnB y
 ·exact ⟨_, rfl, by decide, by decide, by decide⟩
 ·exact ⟨_, rfl, by decide, by decide, by decide⟩
end Go.Proofs.YthkhignbmefmjaaGreatDoor
