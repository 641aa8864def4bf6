/- Walks: the map of the ways to sum. Printed by wip/gen/ways.py. -/
import Derived.Maps.OwnSet
import Derived.Test.YtphaikdbldfpaaaGreatDoorGW
namespace Go.Proofs.YtphaikdbldfpaaaGreatDoor
open Go.RowKit

def WayBox (W : World) (b f : Nat) : Prop := BlkT W b 42 #[.func (.func f) #[] #[]]

theorem WayBox.grown {W W' : World} {b f m : Nat} (h : WayBox W b f) (hg : W.grownBy W' (some m)) (hne : b ≠ m) : WayBox W' b f := h.of_block (hg.block b h.lt (fun e => hne (by cases e; rfl)))

end Go.Proofs.YtphaikdbldfpaaaGreatDoor
