/- Facts for the walk of DyadRises. Printed by wip/gen/ri3.py. -/
import Derived.Test.YtloohbkceppocaaGreatDoorZRi1
import Derived.Test.YtloohbkceppocaaGreatDoorGM
import Derived.Test.YtloohbkceppocaaGreatDoorZRin
import Derived.Test.YtloohbkceppocaaGreatDoorZRk5
namespace Go.Proofs.YtloohbkceppocaaGreatDoor
open Go.RowKit

section
variable {P : Program} {L : List Oper} {Q : Exit → Act → World → Prop} {S : World → Prop} {md : Region.Mode}

/-- One that only reads, or of a value that is not asked. -/
theorem wpPl_skipL {i k : Nat} {o : Oper} {K : Act → World → Prop} {pl : Pl} {a : Act} {w : World} (ho : L[i]? = some o) (hd : o.dst = some k)
    (hQ : ∀ c a' w', Q (.panic c) (a'.put o.dst undef) w' → Q (.panic c) a' w')
    (hw : Region.wanted o (yielded L.toArray a.tmps) = false) (hS : S w)
    (h : wpPl P L.toArray Q S K pl { tmps := a.tmps.setIfInBounds k undef, defers := a.defers } w) : wpPl P L.toArray Q S K (.take i pl) a w := by
  refine ⟨o, undef, getL ho, hQ, .inr ⟨hw, rfl⟩, hS, ?_⟩
  rw [hd]; exact h

theorem wpPl_idleL {i k : Nat} {o : Oper} {K : Act → World → Prop} {pl : Pl} {a : Act} {w : World} (ho : L[i]? = some o) (hd : o.dst = some k)
    (hw : Region.wanted o (yielded L.toArray a.tmps) = false) (hS : S w)
    (h : wpPl P L.toArray Q S K pl { tmps := a.tmps.setIfInBounds k undef, defers := a.defers } w) : wpPl P L.toArray Q S K (.run i pl) a w :=
  wpPl_run (getL ho) fun K' hK => by
    rw [hw]
    refine hK _ _ hS ?_
    rw [hd]; exact h
end

end Go.Proofs.YtloohbkceppocaaGreatDoor
