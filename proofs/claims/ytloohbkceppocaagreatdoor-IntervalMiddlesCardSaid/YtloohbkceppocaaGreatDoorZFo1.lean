/- Walks: by how much a way is off (program, references). Printed by wip/gen/fo1.py. -/
import Derived.Test.YtloohbkceppocaaGreatDoorGX
import Derived.Test.YtloohbkceppocaaGreatDoorGV
import Derived.Maps.OwnSet
import Derived.Test.YtloohbkceppocaaGreatDoorGW
import Derived.Test.YtloohbkceppocaaGreatDoorBD
import Derived.Test.YtloohbkceppocaaGreatDoorZSm1
namespace Go.Proofs.YtloohbkceppocaaGreatDoor
open Go.RowKit

/-- What Off answers. -/
def OffOf (bad z e : Int) (w : World) (en : Ending) (w' : World) : Prop :=
  ∃ n ao l c x, en = .returned (.tuple #[.agg #[.bool n, .slice ao l c, .int .i64 x], .int .i64 bad]) ∧ ResIs bad z e w' (.agg #[.bool n, .slice ao l c, .int .i64 x]) bad ∧ Below w.heap.size w w'

/-- The block of the answer. -/
def DBox (w W : World) : Prop := BlkT W w.heap.size 98 #[.bool false, .slice none 0 0, .int .i64 0] ∧ Below w.heap.size w W
theorem DBox.start (w : World) : DBox w (w.alloc (.cells #[.bool false, .slice none 0 0, .int .i64 0] 98)) := ⟨BlkT.new w _ _, Below.alloc_self w _⟩
theorem DBox.later {w W V : World} (h : DBox w W) (hb : Below W.heap.size W V) : DBox w V := ⟨h.1.below hb, h.2.trans (hb.mono h.2.size)⟩
theorem DBox.put {w W : World} {bad R RE x : Int} {n : Bool} {a : Option Addr} {l c : Nat} (h : DBox w W) (hr : ResIs bad R RE W (.agg #[.bool n, .slice a l c, .int .i64 x]) bad) :
    OffOf bad R RE w (.returned (.tuple #[.agg #[.bool n, .slice a l c, .int .i64 x], .int .i64 bad])) (((W.setCell ⟨w.heap.size, 0, none⟩ (.bool n)).setCell ⟨w.heap.size, 1, none⟩ (.slice a l c)).setCell ⟨w.heap.size, 2, none⟩ (.int .i64 x)) :=
  ⟨n, a, l, c, x, rfl, ((hr.setOther h.1 objT_dyad _).setOther (h.1.set (i := 0) _) objT_dyad _).setOther ((h.1.set (i := 0) _).set (i := 1) _) objT_dyad _,
    ((h.2.setCell (Nat.le_refl _) _).setCell (Nat.le_refl _) _).setCell (Nat.le_refl _) _⟩

end Go.Proofs.YtloohbkceppocaaGreatDoor
