/- Walks: what a dyad's function answers; whether it is the references' (binnaclelaw03.is). -/
import Derived.Test.YtfmecpembnmnkaaGreatDoorGE
import Derived.Test.YtfmecpembnmnkaaGreatDoorGC
import Derived.Test.YtfmecpembnmnkaaGreatDoorGK
import Derived.Shelf.Small.Bits
import Derived.Maps.AppendAt
import Derived.Test.YtfmecpembnmnkaaGreatDoorGL
namespace Go.Proofs.YtfmecpembnmnkaaGreatDoor
open Go.RowKit
theorem good_of_lng {z e : Int} (h : z = 0 ∨ lngB z e = false) : GoodD (hvZ z) (nrE z e) := by
 refine ⟨nrm_hv z e, ?_⟩
 by_cases h0 : z = 0
 ·subst h0; rw [hvZ_zero, nrE, if_pos rfl]; exact ⟨by decide, by decide, by decide⟩
 ·rcases h with h | h
  ·exact absurd h h0
  ·unfold lngB at h
   simp only [Bool.or_eq_false_iff, decide_eq_false_iff_not] at h
   rw [nrE, if_neg h0]
   omega
theorem DyAt.set3 {W : World} {v : Value} {z e : Int} {r : Nat} {cs : Array Value} (h : DyAt W v z e) (hr : BlkT W r 167 cs) (x0 x1 x2 : Value) :
  DyAt (((W.setCell ⟨r, 0, none⟩ x0).setCell ⟨r, 1, none⟩ x1).setCell ⟨r, 2, none⟩ x2) v z e := by
 obtain ⟨sl, rfl, hraw⟩ := h
 exact ⟨sl, rfl, ((hraw.setOther hr objT_dyad _).setOther (hr.set _) objT_dyad _).setOther ((hr.set _).set _) objT_dyad _⟩
end Go.Proofs.YtfmecpembnmnkaaGreatDoor
