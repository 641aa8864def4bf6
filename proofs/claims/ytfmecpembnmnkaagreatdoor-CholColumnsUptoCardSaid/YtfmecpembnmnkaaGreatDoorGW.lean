/- Walk: sum.Exact. -/
import Derived.Test.YtfmecpembnmnkaaGreatDoorGV
import Derived.Test.YtfmecpembnmnkaaGreatDoorGM
import Derived.Test.YtfmecpembnmnkaaGreatDoorGL
import Derived.Test.YtfmecpembnmnkaaGreatDoorGT
namespace Go.Proofs.YtfmecpembnmnkaaGreatDoor
open Go.RowKit
theorem rndX_hv (z e mode : Int) : rndB (hvZ z) (nrE z e) mode = rndX z e mode := by
 unfold rndX
 by_cases h0 : z = 0
 ·subst h0
  rw [if_pos rfl, hvZ_zero, show nrE 0 e = 0 from if_pos rfl, rnd_zero 0 mode rfl]
 ·rw [if_neg h0]
  have h1 : 0 ≤ e + (e.natAbs : Int) := by omega
  rw [rnd_sc (M := (e.natAbs : Int)) (hvZ_ne h0) (nrE_ge (by omega) h1), sc_nr h1, ← rnd_sc h0 h1]
end Go.Proofs.YtfmecpembnmnkaaGreatDoor
