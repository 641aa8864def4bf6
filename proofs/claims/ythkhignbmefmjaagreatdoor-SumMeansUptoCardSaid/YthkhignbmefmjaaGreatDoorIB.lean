/- Walks: intervals: what is one, its ends, the empty one; hull, meet, sign. Printed by wip/gen/iv1.py. -/
import Derived.Test.YthkhignbmefmjaaGreatDoorIA
import Derived.Test.YthkhignbmefmjaaGreatDoorHB
namespace Go.Proofs.YthkhignbmefmjaaGreatDoor
section
open Go.RowKit
theorem run_store_f {P : Program} (a : Addr) (b : Nat) (w : World) {m : Mode} : (store a (.float .f64 b) m).run P w = stored P w a (.float .f64 b) m := run_store P w a _ m rfl
attribute [local go_sem] run_store_f
abbrev W64 (b : Nat) : Prop := b < 18446744073709551616
end
section
open Go.RowKit
attribute [local go_sem] run_store_f
theorem lt_test {x y : Nat} (hx : W64 x) (hy : W64 y) (nx : nanB x = false) (ny : nanB y = false) : (FloatKind.f64.format.order x y == some Ordering.lt) = decide (ky x < ky y) := by
 have := ordB_lt hx hy
 unfold ordB F6 at this
 rw [this, nx, ny]; simp
theorem gt_test {x y : Nat} (hx : W64 x) (hy : W64 y) (nx : nanB x = false) (ny : nanB y = false) : (FloatKind.f64.format.order x y == some Ordering.gt) = decide (ky y < ky x) := by
 have := ordB_gt hx hy
 unfold ordB F6 at this
 rw [this, nx, ny]; simp
theorem eq_test {x y : Nat} (hx : W64 x) (hy : W64 y) (nx : nanB x = false) (ny : nanB y = false) : (FloatKind.f64.format.order x y == some Ordering.eq) = decide (ky x = ky y) := by
 have := ordB_eq hx hy
 unfold ordB F6 at this
 rw [this, nx, ny]; simp
end
end Go.Proofs.YthkhignbmefmjaaGreatDoor
