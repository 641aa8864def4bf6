/- Walks: what a dyad's function answers; whether it is the references' (binnaclelaw03.is). -/
import Derived.Test.YtfmecpembnmnkaaGreatDoorPGO
import Derived.Test.YtfmecpembnmnkaaGreatDoorPGC
import Derived.Maps.AppendAt
import Derived.Test.YtfmecpembnmnkaaGreatDoorPGL
namespace Go.Proofs.YtfmecpembnmnkaaGreatDoor
open Go.RowKit
theorem aAv {z e:Int}(h:z=0∨yO z e=false):gK (hvZ z) (nrE z e):=by
 refine⟨aV7 z e,?_⟩
 by_cases h0:z=0
 ·subst h0;rw [mQ,nrE,if_pos rfl];exact⟨by decide,by decide,by decide⟩
 ·rcases h with h|h
  ·exact absurd h h0
  ·unfold yO at h
   simp only [Bool.or_eq_false_iff,decide_eq_false_iff_not]at h
   rw [nrE,if_neg h0]
   omega
theorem jS.aYa {W:World}{v:Value}{z e:Int}{r:Nat}{cs:Array Value}(h:jS W v z e) (hr:aJ W r 167 cs) (x0 x1 x2:Value):
  jS (((W.setCell ⟨r,0,none⟩ x0).setCell ⟨r,1,none⟩ x1).setCell ⟨r,2,none⟩ x2) v z e:=by
 obtain⟨sl,rfl,hraw⟩:=h
 exact⟨sl,rfl,((hraw.setOther hr iY _).setOther (hr.set _) iY _).setOther ((hr.set _).set _) iY _⟩
end Go.Proofs.YtfmecpembnmnkaaGreatDoor
