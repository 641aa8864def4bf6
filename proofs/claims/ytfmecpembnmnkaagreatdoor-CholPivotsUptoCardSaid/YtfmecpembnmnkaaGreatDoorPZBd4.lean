/- Plain: Kahan's sum is a number; what the law of bounds asks, in the exact numbers' own words. -/
import Derived.Test.YtfmecpembnmnkaaGreatDoorPBD
import Derived.Test.YtfmecpembnmnkaaGreatDoorPGV
import Derived.Test.YtfmecpembnmnkaaGreatDoorPGX
import Derived.Test.YtfmecpembnmnkaaGreatDoorPGW
import Derived.RangeFuncFrom
import Derived.RangeFuncBox
import Derived.RangeFuncNested
import Derived.RangeFuncBound
import Derived.RangeFuncCalls
import Derived.RangeFuncLeaves
import Derived.Shelf.Abstract
import Derived.Shelf.RegionOpen
import Derived.WalkKit
import Derived.OwnWalkIn
import Derived.TacticsInMore
import Derived.LoopNIn
import Derived.LoopIn
import Derived.Test.YtfmecpembnmnkaaGreatDoorPGI
import Derived.Maps.OwnSet
import Derived.Test.YtfmecpembnmnkaaGreatDoorPGR
import Derived.Test.YtfmecpembnmnkaaGreatDoorPHB
namespace Go.Proofs.YtfmecpembnmnkaaGreatDoor
open Go.RowKit
theorem aGq {z e:Int}(h:gK z e):aFg (decide (z<0)) (ln 32 z.natAbs) z.natAbs e=true:=by
 obtain⟨h1,h2,h3,h4⟩:=h
 unfold aFg
 by_cases h0:z=0
 ·subst h0
  rcases h1 with ⟨-,h1⟩|h1
  ·subst h1;decide
  ·omega
 ·have hl:ln 32 z.natAbs≠0:=fun h=>h0 (by have:=(jE (s:=32) (by decide)).1 h;omega)
  rw [if_neg hl]
  have hodd:z%2=1:=by
   rcases h1 with h1|h1
   ·exact absurd h1.1 h0
   ·exact h1
  have d1:=aCh (s:=32) (by decide) (show z.natAbs≠0 by omega)
  have d2:ln 32 z.natAbs≤2048:=by unfold ln;omega
  simp only [Bool.and_eq_true,decide_eq_true_eq]
  refine⟨d2,d1,?_,h3,h4⟩
  rw [tX];omega
end Go.Proofs.YtfmecpembnmnkaaGreatDoor
