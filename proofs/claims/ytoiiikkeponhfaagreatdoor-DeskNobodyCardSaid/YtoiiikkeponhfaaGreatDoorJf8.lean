/-
  Closed facts of the row.
-/
import Derived.SizedLaws
import Derived.Test.YtoiiikkeponhfaaGreatDoorRows
import Derived.Test.YtoiiikkeponhfaaGreatDoorChecked
namespace Go.Proofs.YtoiiikkeponhfaaGreatDoor.deskNobody
open Go.ChangeShapes Go.WideShapes
set_option linter.unusedVariables false
theorem jf22 : (Rows.deskNobodyRow.plainKeys == Tryz.prog.plainKeys) = true := by kernel_rfl
end Go.Proofs.YtoiiikkeponhfaaGreatDoor.deskNobody
