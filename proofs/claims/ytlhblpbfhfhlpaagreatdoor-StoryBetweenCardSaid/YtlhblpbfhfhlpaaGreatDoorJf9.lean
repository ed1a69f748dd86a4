/-
  Closed facts of the row.
-/
import Derived.SizedLaws
import Derived.Test.YtlhblpbfhfhlpaaGreatDoorRows
import Derived.Test.YtlhblpbfhfhlpaaGreatDoorChecked
namespace Go.Proofs.YtlhblpbfhfhlpaaGreatDoor.storyBetween
open Go.ChangeShapes Go.WideShapes
set_option linter.unusedVariables false
theorem jf24 : Tryz.prog.stopsHeard = true := by kernel_rfl
end Go.Proofs.YtlhblpbfhfhlpaaGreatDoor.storyBetween
