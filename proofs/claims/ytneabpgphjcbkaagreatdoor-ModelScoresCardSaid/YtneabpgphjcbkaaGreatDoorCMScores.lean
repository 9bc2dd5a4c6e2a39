/-
  The closed facts of the row ModelScores.
-/
import Derived.Test.YtneabpgphjcbkaaGreatDoorTabsMScores
import Derived.Test.YtneabpgphjcbkaaGreatDoorCards
import Derived.Test.YtneabpgphjcbkaaGreatDoorTie
import Derived.WalkKit
import Derived.ProofKit
import Derived.OpenShut
import Derived.LaidOnce
import Derived.SevenTiedAt
namespace Go.Proofs.YtneabpgphjcbkaaGreatDoor.modelScores
open Go.ChangeShapes Go.WideShapes Go.ChangeAt Go.RowKit

set_option maxHeartbeats 2000000 in
set_option maxRecDepth 100000 in
theorem closed : joinedFacts Tryz.prog 5 Tryz.f5 Rows.modelScoresSpec Rows.modelScoresRow = true := by
  delta joinedFacts
  repeat' (with_reducible refine and_mk ?_ ?_)
  all_goals as_aux_lemma => kernel_rfl
end Go.Proofs.YtneabpgphjcbkaaGreatDoor.modelScores
