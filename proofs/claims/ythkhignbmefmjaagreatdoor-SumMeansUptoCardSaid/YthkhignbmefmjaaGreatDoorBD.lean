/- Plain: floats as whole numbers of units of 2^-1074; a sum, a difference is the nearest to the exact one. -/
import Init
import Derived.Test.YthkhignbmefmjaaGreatDoorZRi1
import Derived.Test.YthkhignbmefmjaaGreatDoorGT
import Derived.Test.YthkhignbmefmjaaGreatDoorGW
namespace Go.Proofs.YthkhignbmefmjaaGreatDoor
open Go.RowKit
def fI (b : Nat) : Int := sc 1074 (valZ b) (pE b)
end Go.Proofs.YthkhignbmefmjaaGreatDoor
