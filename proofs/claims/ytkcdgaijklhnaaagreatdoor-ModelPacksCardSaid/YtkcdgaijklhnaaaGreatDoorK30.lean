/-
  The closed facts of the row ModelPacks.
-/
import Derived.Test.YtkcdgaijklhnaaaGreatDoorK29
import Derived.Test.YtkcdgaijklhnaaaGreatDoorCards
import Derived.Test.YtkcdgaijklhnaaaGreatDoorTie
import Derived.WalkKit
import Derived.ProofKit
import Derived.OpenShut
import Derived.LaidOnce
import Derived.SevenTiedAt
namespace Go.Proofs.YtkcdgaijklhnaaaGreatDoor.modelPacks
open Go.ChangeShapes Go.WideShapes Go.ChangeAt Go.RowKit
set_option maxHeartbeats 2000000 in
set_option maxRecDepth 100000 in
theorem closed : joinedFacts Tryz.prog 3 Tryz.f3 Rows.modelPacksSpec Rows.modelPacksRow = true := by
  delta joinedFacts
  repeat' (with_reducible refine and_mk ?_ ?_)
  all_goals as_aux_lemma => kernel_rfl
end Go.Proofs.YtkcdgaijklhnaaaGreatDoor.modelPacks
