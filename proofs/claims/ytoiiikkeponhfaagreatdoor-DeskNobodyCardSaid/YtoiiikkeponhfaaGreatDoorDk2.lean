/-
  'Rows.DeskNobodySaid' is proved: the law percolatelaw48.DeskNobody returns true at every input, and its arguments read as they did. No condition.
-/
import Derived.SizedLaws
import Derived.Test.YtoiiikkeponhfaaGreatDoorCards
import Derived.Test.YtoiiikkeponhfaaGreatDoorTie
import Derived.Deep.DeepHandedRow
import Derived.LaidLaws
import Derived.Lay
import Derived.SevenTiedAt
namespace Go.Proofs.YtoiiikkeponhfaaGreatDoor.deskNobody
set_option linter.unusedVariables false

theorem dk2 : true = Tryz.prog.looks [] := by kernel_rfl
end Go.Proofs.YtoiiikkeponhfaaGreatDoor.deskNobody
