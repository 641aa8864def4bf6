/- Walks: dyads that were handed in: May, take, Round. Printed by wip/gen/inp2.py. -/
import Derived.Test.YtloohbkceppocaaGreatDoorGY
import Derived.Test.YtloohbkceppocaaGreatDoorGM
namespace Go.Proofs.YtloohbkceppocaaGreatDoor
open Go.RowKit

/-- As DyAt, but that nothing is said of the words' block's type. -/
def DyI (w : World) (v : Value) (z e : Int) : Prop := ∃ sl, v = DyV (decide (z < 0)) sl e ∧ RawI w sl (ln 32 z.natAbs) z.natAbs

theorem DyI.below {w w' : World} {v : Value} {z e : Int} (h : DyI w v z e) (hb : Below w.heap.size w w') : DyI w' v z e := by
  obtain ⟨sl, h1, h2⟩ := h; exact ⟨sl, h1, h2.below hb⟩

end Go.Proofs.YtloohbkceppocaaGreatDoor
