/-
  Closed facts of the row.
-/
import Derived.SizedLaws
import Derived.Test.YtlhblpbfhfhlpaaGreatDoorRows
import Derived.Test.YtlhblpbfhfhlpaaGreatDoorChecked
namespace Go.Proofs.YtlhblpbfhfhlpaaGreatDoor.storyBetween
open Go.ChangeShapes Go.WideShapes
set_option linter.unusedVariables false
theorem jf10 : (Rows.storyBetweenRow.unfollowed == Tryz.prog.unfollowed 3) = true := by kernel_rfl
end Go.Proofs.YtlhblpbfhfhlpaaGreatDoor.storyBetween
