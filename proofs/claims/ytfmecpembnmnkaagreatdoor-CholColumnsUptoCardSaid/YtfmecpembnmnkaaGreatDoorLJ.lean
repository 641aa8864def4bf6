/- Walk: chol.LDL. Printed by wip/gen/ch23.py. -/
import Derived.Test.YtfmecpembnmnkaaGreatDoorLC
import Derived.Test.YtfmecpembnmnkaaGreatDoorLD
namespace Go.Proofs.YtfmecpembnmnkaaGreatDoor
open Go.RowKit
attribute [local go_sem] run_store_f run_store_fn
def oneO : Fo := some 4607182418800017408
end Go.Proofs.YtfmecpembnmnkaaGreatDoor
