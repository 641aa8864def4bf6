/- Plain: how exact numbers stand to each other, told by their values; walks: the law's word 'infinite'. -/
import Derived.Test.YtloohbkceppocaaGreatDoorZIwq
namespace Go.Proofs.YtloohbkceppocaaGreatDoor
open Go.RowKit

theorem sc_pos {M z e : Int} : (0 < sc M z e ↔ 0 < z) ∧ (sc M z e < 0 ↔ z < 0) := by
  have h : (0 : Int) < 2 ^ (e + M).toNat := Int.pow_pos (by decide)
  unfold sc
  refine ⟨⟨fun h1 => ?_, fun h1 => Int.mul_pos h1 h⟩, fun h1 => ?_, fun h1 => Int.mul_neg_of_neg_of_pos h1 h⟩
  · rcases Int.lt_or_le 0 z with h2 | h2
    · exact h2
    · have := Int.mul_nonpos_of_nonpos_of_nonneg h2 (Int.le_of_lt h); omega
  · rcases Int.lt_or_le z 0 with h2 | h2
    · exact h2
    · have := Int.mul_nonneg h2 (Int.le_of_lt h); omega

end Go.Proofs.YtloohbkceppocaaGreatDoor
