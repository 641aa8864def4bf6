/- Walk: sum.Exact. -/
import Derived.Test.YtfmecpembnmnkaaGreatDoorPGV
import Derived.Test.YtfmecpembnmnkaaGreatDoorPGM
import Derived.Test.YtfmecpembnmnkaaGreatDoorPGL
import Derived.Test.YtfmecpembnmnkaaGreatDoorPGT
namespace Go.Proofs.YtfmecpembnmnkaaGreatDoor
open Go.RowKit
theorem lK (z e mode:Int):eU (hvZ z) (nrE z e) mode=aV z e mode:=by
 unfold aV
 by_cases h0:z=0
 ·subst h0
  rw [if_pos rfl,mQ,show nrE 0 e=0 from if_pos rfl,lF 0 mode rfl]
 ·rw [if_neg h0]
  have h1:0≤e+(e.natAbs:Int):=by omega
  rw [aAr (M:=(e.natAbs:Int)) (aJg h0) (uZ (by omega) h1),aAz h1,←aAr h0 h1]
end Go.Proofs.YtfmecpembnmnkaaGreatDoor
