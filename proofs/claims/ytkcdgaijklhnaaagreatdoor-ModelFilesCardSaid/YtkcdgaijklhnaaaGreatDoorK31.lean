/-
  The closed facts of the row ModelFiles.
-/
import Derived.Test.YtkcdgaijklhnaaaGreatDoorK30
import Derived.Test.YtkcdgaijklhnaaaGreatDoorCards
import Derived.Test.YtkcdgaijklhnaaaGreatDoorTie
import Derived.WalkKit
import Derived.ProofKit
import Derived.OpenShut
import Derived.LaidOnce
import Derived.SevenTiedAt
namespace Go.Proofs.YtkcdgaijklhnaaaGreatDoor.modelFiles
open Go.ChangeShapes Go.WideShapes Go.ChangeAt Go.RowKit
set_option maxHeartbeats 2000000 in
set_option maxRecDepth 100000 in
theorem closed : joinedFacts Tryz.prog 4 Tryz.f4 Rows.modelFilesSpec Rows.modelFilesRow = true := by
 delta joinedFacts
 repeat' (with_reducible refine and_mk ?_ ?_)
 all_goals as_aux_lemma => kernel_rfl
end Go.Proofs.YtkcdgaijklhnaaaGreatDoor.modelFiles
