/- The middle, the radius and the width of an interval. Plain. -/
import Derived.Test.YtjokekmbnffpfaaGreatDoorII
namespace Go.Proofs.YtjokekmbnffpfaaGreatDoor
open Go.RowKit

theorem flip_ok {x : Nat} (hx : W64 x) (fx : finB x = true) : W64 (flipB x) ∧ finB (flipB x) = true ∧ fI (flipB x) = -fI x :=
  ⟨flip_lt hx, by rw [flip_fin]; exact fx, vI_flip hx fx (Int.le_refl _)⟩

end Go.Proofs.YtjokekmbnffpfaaGreatDoor
