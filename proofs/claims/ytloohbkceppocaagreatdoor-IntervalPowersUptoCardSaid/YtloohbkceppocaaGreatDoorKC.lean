/- Walk: the references' over, where the divisor has more words than one. -/
import Derived.Test.YtloohbkceppocaaGreatDoorGA
import Derived.Test.YtloohbkceppocaaGreatDoorGF
import Derived.Test.YtloohbkceppocaaGreatDoorGC
import Derived.Test.YtloohbkceppocaaGreatDoorGO
namespace Go.Proofs.YtloohbkceppocaaGreatDoor
open Go.RowKit
theorem bl_shlN {N k : Nat} (h : N ≠ 0) : bl (N * 2 ^ k) = bl N + k := by
 have h1 : bl (N * 2 ^ k) ≤ bl N + k := bl_le_of_lt (by rw [Nat.pow_add]; exact Nat.mul_lt_mul_of_pos_right (lt_bl N) (Nat.two_pow_pos _))
 have h2 := bl_pos h
 rcases Nat.lt_or_ge (bl (N * 2 ^ k)) (bl N + k) with h3 | h3
 ·exfalso
  have h4 : N * 2 ^ k < 2 ^ (bl N - 1 + k) := bl_le_iff.1 (by omega)
  rw [Nat.pow_add] at h4
  have h5 := Nat.lt_of_mul_lt_mul_right h4
  have := bl_le_of_lt h5
  omega
 ·omega
section
variable {P : Program} {L : List Oper} {Q : Exit → Act → World → Prop} {S : World → Prop}
theorem wpPl_skipK {i k : Nat} {o : Oper} {K : Act → World → Prop} {pl : Pl} {a : Act} {w : World} (ho : L[i]? = some o) (hd : o.dst = some k)
  (hQ : ∀ c a' w', Q (.panic c) (a'.put o.dst undef) w' → Q (.panic c) a' w')
  (hw : Region.wanted o (yielded L.toArray a.tmps) = false) (hS : S w)
  (h : wpPl P L.toArray Q S K pl { tmps := a.tmps.setIfInBounds k undef, defers := a.defers } w) : wpPl P L.toArray Q S K (.take i pl) a w := by
 refine ⟨o, undef, getL ho, hQ, .inr ⟨hw, rfl⟩, hS, ?_⟩
 rw [hd]; exact h
end
end Go.Proofs.YtloohbkceppocaaGreatDoor
