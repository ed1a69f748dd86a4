/-
  Closed facts of the row.
-/
import Derived.SizedLaws
import Derived.Test.YtlhblpbfhfhlpaaGreatDoorRows
import Derived.Test.YtlhblpbfhfhlpaaGreatDoorChecked
namespace Go.Proofs.YtlhblpbfhfhlpaaGreatDoor.storyBetween
open Go.ChangeShapes Go.WideShapes
set_option linter.unusedVariables false
theorem jf28 : (Rows.storyBetweenRow.kinds == (if Rows.storyBetweenRow.domain.isEmpty then [] else Tryz.f3.params.toList.map fun t => match Tryz.prog.underlying t with | some (.int k) => some k | _ => none)) = true := by kernel_rfl
end Go.Proofs.YtlhblpbfhfhlpaaGreatDoor.storyBetween
