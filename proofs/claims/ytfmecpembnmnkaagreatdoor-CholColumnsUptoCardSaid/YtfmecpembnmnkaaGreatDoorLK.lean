/- Walk: CholFactors. Printed by wip/gen/ch26.py. -/
import Derived.Test.YtfmecpembnmnkaaGreatDoorLH
import Derived.Test.YtfmecpembnmnkaaGreatDoorLI
import Derived.Test.YtfmecpembnmnkaaGreatDoorLJ
import Derived.Test.YtfmecpembnmnkaaGreatDoorLD
namespace Go.Proofs.YtfmecpembnmnkaaGreatDoor
open Go.RowKit
attribute [local go_sem] run_store_f
theorem Upd.set3 {W : World} {b : Nat} (x y z : Value) : Upd b W (((W.setCell ⟨b, 0, none⟩ x).setCell ⟨b, 1, none⟩ y).setCell ⟨b, 2, none⟩ z) := ((Upd.set x).trans (Upd.set y)).trans (Upd.set z)
theorem FSl.upd_lt {W V : World} {v : Value} {l : List Nat} {sb : Nat} (h : FSl W v l) (hf : ∀ a c d, v = .slice (some a) c d → sb < a.block) (hu : Upd sb W V) : FSl V v l := (FSn.upd ⟨h, fun _ a c d e => by have := hf a c d e; omega⟩ hu).1
theorem BlkT.set3 {W : World} {b : Nat} {x y z : Value} (u v w : Value) (h : BlkT W b 25 #[x, y, z]) : BlkT (((W.setCell ⟨b, 0, none⟩ u).setCell ⟨b, 1, none⟩ v).setCell ⟨b, 2, none⟩ w) b 25 #[u, v, w] := ((h.set (i := 0) u).set (i := 1) v).set (i := 2) w
end Go.Proofs.YtfmecpembnmnkaaGreatDoor
