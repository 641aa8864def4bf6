/- Plain: a nought behind a sum in order changes nothing. -/
import Derived.Test.YtloohbkceppocaaGreatDoorGV
import Derived.Test.YtloohbkceppocaaGreatDoorGW
namespace Go.Proofs.YtloohbkceppocaaGreatDoor
open Go.RowKit

theorem read_infinite {x : Nat} (h2 : x % kSign = kInf) : ∃ s, F6.read x = .infinity s := by
  refine ⟨(x / kSign % 2 == 1), ?_⟩
  unfold Ieee.Format.read
  simp only [F6_binade, F6_inf, F6_sign]
  rw [h2, if_neg (by decide), if_neg (by omega), if_pos rfl]

end Go.Proofs.YtloohbkceppocaaGreatDoor
