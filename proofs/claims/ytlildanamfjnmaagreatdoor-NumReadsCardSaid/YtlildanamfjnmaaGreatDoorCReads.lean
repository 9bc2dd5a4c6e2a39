/-
  The closed facts of the row NumReads.
-/
import Derived.Test.YtlildanamfjnmaaGreatDoorTabs
import Derived.Test.YtlildanamfjnmaaGreatDoorCards
import Derived.Test.YtlildanamfjnmaaGreatDoorTie
import Derived.WalkKit
import Derived.ProofKit
import Derived.OpenShut
import Derived.LaidOnce
import Derived.SevenTiedAt
namespace Go.Proofs.YtlildanamfjnmaaGreatDoor.numReads
open Go.ChangeShapes Go.WideShapes Go.ChangeAt Go.RowKit

set_option maxHeartbeats 2000000 in
set_option maxRecDepth 100000 in
theorem closed : joinedFacts Tryz.prog 8 Tryz.f8 Rows.numReadsSpec Rows.numReadsRow = true := by
  delta joinedFacts
  repeat' (with_reducible refine and_mk ?_ ?_)
  all_goals as_aux_lemma => kernel_rfl
end Go.Proofs.YtlildanamfjnmaaGreatDoor.numReads
