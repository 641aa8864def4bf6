/- Plain: the length of a list, step by step: no step is a NaN. No program. -/
import Derived.Test.YtfmecpembnmnkaaGreatDoorGA
import Derived.Test.YtfmecpembnmnkaaGreatDoorGE
import Derived.Test.YtfmecpembnmnkaaGreatDoorGC
import Derived.Test.YtfmecpembnmnkaaGreatDoorGK
import Derived.Shelf.Small.Bits
import Derived.Deep.CutRange
import Derived.Deep.CutBlock
import Derived.Test.YtfmecpembnmnkaaGreatDoorZRi1
import Derived.Test.YtfmecpembnmnkaaGreatDoorGM
import Derived.Test.YtfmecpembnmnkaaGreatDoorGW
import Derived.Test.YtfmecpembnmnkaaGreatDoorGB
import Derived.Test.YtfmecpembnmnkaaGreatDoorHB
import Derived.Test.YtfmecpembnmnkaaGreatDoorID
import Derived.Test.YtfmecpembnmnkaaGreatDoorII
import Derived.Test.YtfmecpembnmnkaaGreatDoorIF
import Derived.Test.YtfmecpembnmnkaaGreatDoorGY
import Derived.Test.YtfmecpembnmnkaaGreatDoorGV
import Derived.Test.YtfmecpembnmnkaaGreatDoorGX
import Derived.Test.YtfmecpembnmnkaaGreatDoorGR
namespace Go.Proofs.YtfmecpembnmnkaaGreatDoor
open Go.RowKit
theorem inf_of {x : Nat} (hx : W64 x) (nx : nanB x = false) (fx : finB x = false) : x = kInf ∨ x = kSign + kInf := by
 have h1 := num_of nx
 have h2 : x < 18446744073709551616 := hx
 unfold finB expF at fx
 have h3 := of_decide_eq_false fx
 have e1 : kInf = 9218868437227405312 := rfl
 have e2 : kSign = 9223372036854775808 := rfl
 have e3 : kHid = 4503599627370496 := rfl
 rw [e3] at h3
 rw [e2, e1] at h1
 rw [e2, e1]
 omega
theorem pos_inf {x : Nat} (hx : W64 x) (nx : nanB x = false) (fx : finB x = false) (h : 0 ≤ ky x) : x = kInf := by
 have h1 := inf_of hx nx fx
 rcases h1 with h1 | h1
 ·exact h1
 ·exfalso
  rw [h1] at h
  exact absurd h (by decide)
end Go.Proofs.YtfmecpembnmnkaaGreatDoor
