/-
  Closed facts of the row.
-/
import Derived.SizedLaws
import Derived.Test.YtoiiikkeponhfaaGreatDoorRows
import Derived.Test.YtoiiikkeponhfaaGreatDoorChecked
namespace Go.Proofs.YtoiiikkeponhfaaGreatDoor.deskNobody
open Go.ChangeShapes Go.WideShapes
set_option linter.unusedVariables false
theorem jf9 : (Rows.deskNobodyRow.inPlace == Tryz.prog.inPlace 3) = true := by kernel_rfl
end Go.Proofs.YtoiiikkeponhfaaGreatDoor.deskNobody
