/-
  Closed facts of the row.
-/
import Derived.SizedLaws
import Derived.Test.YtoiiikkeponhfaaGreatDoorRows
import Derived.Test.YtoiiikkeponhfaaGreatDoorChecked
namespace Go.Proofs.YtoiiikkeponhfaaGreatDoor.deskNobody
open Go.ChangeShapes Go.WideShapes
set_option linter.unusedVariables false
theorem jf28 : (Rows.deskNobodyRow.kinds == (if Rows.deskNobodyRow.domain.isEmpty then [] else Tryz.f3.params.toList.map fun t => match Tryz.prog.underlying t with | some (.int k) => some k | _ => none)) = true := by kernel_rfl
end Go.Proofs.YtoiiikkeponhfaaGreatDoor.deskNobody
