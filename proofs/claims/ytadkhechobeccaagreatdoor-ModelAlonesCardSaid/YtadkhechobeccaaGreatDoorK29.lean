/-
  The closed facts of the row ModelAlones.
-/
import Derived.Test.YtadkhechobeccaaGreatDoorK28
import Derived.Test.YtadkhechobeccaaGreatDoorCards
import Derived.Test.YtadkhechobeccaaGreatDoorTie
import Derived.WalkKit
import Derived.ProofKit
import Derived.OpenShut
import Derived.LaidOnce
import Derived.SevenTiedAt
namespace Go.Proofs.YtadkhechobeccaaGreatDoor.modelAlones
open Go.ChangeShapes Go.WideShapes Go.ChangeAt Go.RowKit
set_option maxHeartbeats 2000000 in
set_option maxRecDepth 100000 in
theorem closed : joinedFacts Tryz.prog 5 Tryz.f5 Rows.modelAlonesSpec Rows.modelAlonesRow = true := by
  delta joinedFacts
  repeat' (with_reducible refine and_mk ?_ ?_)
  all_goals as_aux_lemma => kernel_rfl
end Go.Proofs.YtadkhechobeccaaGreatDoor.modelAlones
