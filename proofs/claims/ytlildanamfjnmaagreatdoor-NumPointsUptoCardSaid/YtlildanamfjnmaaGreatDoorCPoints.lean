/-
  The closed facts of the row NumPoints, up to a size.
-/
import Derived.Test.YtlildanamfjnmaaGreatDoorTabs
import Derived.Test.YtlildanamfjnmaaGreatDoorCards
import Derived.Test.YtlildanamfjnmaaGreatDoorTie
import Derived.WalkKit
import Derived.ProofKit
import Derived.OpenShut
import Derived.LaidOnce
import Derived.SevenTiedAt
namespace Go.Proofs.YtlildanamfjnmaaGreatDoor.numPoints
open Go.ChangeShapes Go.WideShapes Go.ChangeAt Go.RowKit

set_option maxHeartbeats 2000000 in
set_option maxRecDepth 100000 in
theorem closed : joinedFacts Tryz.prog 3 Tryz.f3 (Rows.OpenSpec.upto Rows.numPointsSpec).bare Rows.numPointsUptoRow = true := by
  delta joinedFacts
  repeat' (with_reducible refine and_mk ?_ ?_)
  all_goals as_aux_lemma => kernel_rfl
end Go.Proofs.YtlildanamfjnmaaGreatDoor.numPoints
