/-
  The closed facts of the row QuantMultipliers.
-/
import Derived.Test.YtldjemlmjfpmjaaGreatDoorTabsQ
import Derived.Test.YtldjemlmjfpmjaaGreatDoorCards
import Derived.Test.YtldjemlmjfpmjaaGreatDoorTie
import Derived.WalkKit
import Derived.ProofKit
import Derived.OpenShut
import Derived.LaidOnce
import Derived.SevenTiedAt
namespace Go.Proofs.YtldjemlmjfpmjaaGreatDoor.quantMultipliers
open Go.ChangeShapes Go.WideShapes Go.ChangeAt Go.RowKit

set_option maxHeartbeats 2000000 in
set_option maxRecDepth 100000 in
theorem closed : joinedFacts Tryz.prog 5 Tryz.f5 Rows.quantMultipliersSpec Rows.quantMultipliersRow = true := by
  delta joinedFacts
  repeat' (with_reducible refine and_mk ?_ ?_)
  all_goals as_aux_lemma => kernel_rfl
end Go.Proofs.YtldjemlmjfpmjaaGreatDoor.quantMultipliers
