/-
  'Rows.DeskNobodySaid' is proved: the law percolatelaw48.DeskNobody returns true at every input, and its arguments read as they did. No condition.
-/
import Derived.SizedLaws
import Derived.Test.YtoiiikkeponhfaaGreatDoorCards
import Derived.Test.YtoiiikkeponhfaaGreatDoorTie
import Derived.Deep.DeepHandedRow
import Derived.LaidLaws
import Derived.Lay
import Derived.SevenTiedAt
namespace Go.Proofs.YtoiiikkeponhfaaGreatDoor.deskNobody
set_option linter.unusedVariables false

theorem dk4 : Tryz.prog.mainIs = some ((true, "1767da92144573b8247bc97dae76339758f33b29cee3dc76044c8f14cfe30781").1, (true, "1767da92144573b8247bc97dae76339758f33b29cee3dc76044c8f14cfe30781").2.toList) := by kernel_rfl
end Go.Proofs.YtoiiikkeponhfaaGreatDoor.deskNobody
